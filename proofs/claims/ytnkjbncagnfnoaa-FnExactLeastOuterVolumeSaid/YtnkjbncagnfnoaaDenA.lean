/- Values without memory, and what is known of the machine beside them: the first part of a reckoner that is proved sound. Conditions: none. -/
import Derived.Calls
import Derived.Tactics
import Derived.Laws.AppendOwn
import Derived.Laws.MakeOwn
import Derived.Laws.OwnMore
import Derived.Laws.Slices
import Derived.Deep.LoopGhost
set_option linter.unusedVariables false
set_option linter.unusedSimpArgs false
set_option linter.unnecessarySimpa false
set_option autoImplicit false
namespace Go.Den

/-- Pure values: what a cell, a struct, a slice says. -/
inductive PV where
  | undef
  | no
  | int (k : IntKind) (n : Int)
  | bool (b : Bool)
  | str (s : ByteArray)
  | nil
  | nilp
  | nilf
  | sl (e : Nat) (xs : List PV)
  | agg (xs : List PV)
  | tup (xs : List PV)
  | ref (r j : Nat)
  | fn (f : Nat) (caps : List PV)
  | eix (i j : Nat)
  deriving Inhabited

namespace PV
/-- The cells that a value takes in memory. -/
def cells : PV → List PV
  | .agg xs => xs
  | v => [v]
/-- Values that lead to no memory. -/
def flat : PV → Option Value
  | .int k n => some (.int k n)
  | .bool b => some (.bool b)
  | .str s => some (.string s)
  | .nil => some (.slice none 0 0)
  | .nilp => some (.pointer none)
  | .nilf => some .nilFunc
  | .no => some (.tuple #[])
  | _ => none
def flats : List PV → Option (List Value)
  | [] => some []
  | v :: vs => match v.flat, flats vs with
    | some c, some cs => some (c :: cs)
    | _, _ => none
end PV

/-- How sure a reading is: own: each row is this value's alone; full: whole rows, nobody writes them; rep: just reads so. -/
inductive M where
  | own | full | rep
  deriving DecidableEq

/-- Where the part number i of a value may lie. -/
def part (m : M) (fp : Nat → Prop) (lab : Nat → Nat) (b : Option Nat) (i : Nat) : Nat → Prop :=
  match m with
  | .own => fun k => fp k ∧ some k ≠ b ∧ lab k = i
  | _ => fp

/-- A row's cells: of the call's own, or just to be read. -/
def RowOk (P : Program) (w : World) (m : M) (e : Nat) (v : Value) (n : Nat) (cs : List Value) : Prop :=
  match m with
  | .rep => ∃ ad cap, v = .slice (some ad) n cap ∧ n ≤ cap ∧ cap ≤ maxLen ∧ cs.length = n * P.cellsOf e ∧ ∀ j u, cs[j]? = some u → w.cell? (ad.add j) = some u
  | _ => w.ownsRow 0 e (P.cellsOf e) v n cs ∧ v.ownBlock ≠ none

def flatten (xs : List PV) : List PV := xs.flatMap PV.cells

inductive R (P : Program) (w : World) : M → (Nat → Prop) → PV → Value → Prop
  | unk {m : M} {fp : Nat → Prop} {c : Value} : R P w m fp .undef c
  | flat {m : M} {fp : Nat → Prop} {v : PV} {c : Value} (h : v.flat = some c) : R P w m fp v c
  | agg {m : M} {fp : Nat → Prop} {xs : List PV} {cs : Array Value} (lab : Nat → Nat) (hl : cs.size = xs.length) (h : ∀ i, i < xs.length → R P w m (part m fp lab none i) (xs.getD i .undef) (cs.getD i undef)) : R P w m fp (.agg xs) (.agg cs)
  | row {m : M} {fp : Nat → Prop} {e : Nat} {xs : List PV} {v : Value} (lab : Nat → Nat) (cs : List Value) (hsz : ∀ x ∈ xs, x.cells.length = P.cellsOf e) (hpos : 0 < P.cellsOf e) (hrow : RowOk P w m e v xs.length cs)
      (hfp : ∀ k, v.ownBlock = some k → fp k) (h : ∀ i, i < (flatten xs).length → R P w m (part m fp lab v.ownBlock i) ((flatten xs).getD i .undef) (cs.getD i undef)) : R P w m fp (.sl e xs) v

theorem part_mono {m : M} {fp fp' : Nat → Prop} {lab : Nat → Nat} {b : Option Nat} {i : Nat} (h : ∀ k, fp k → fp' k) : ∀ k, part m fp lab b i k → part m fp' lab b i k := by
  intro k hk
  cases m
  · exact ⟨h k hk.1, hk.2⟩
  · exact h k hk
  · exact h k hk

theorem part_sub {m : M} {fp : Nat → Prop} {lab : Nat → Nat} {b : Option Nat} {i : Nat} : ∀ k, part m fp lab b i k → fp k := by
  intro k hk
  cases m
  · exact hk.1
  · exact hk
  · exact hk

theorem RowOk.frame {P : Program} {w w' : World} {m : M} {e : Nat} {v : Value} {n : Nat} {cs : List Value} (h : RowOk P w m e v n cs) (hb : ∀ k, v.ownBlock = some k → w'.heap[k]? = w.heap[k]?) : RowOk P w' m e v n cs := by
  have own : ∀ {x y}, (w.ownsRow 0 e x v n cs ∧ y) → (w'.ownsRow 0 e x v n cs ∧ y) := by
    rintro x y ⟨ho, hn⟩
    refine ⟨⟨ho.1, ?_⟩, hn⟩
    rcases ho.2 with h2 | ⟨g, cap, cur, hv, hg, hh, r⟩
    · exact .inl h2
    · refine .inr ⟨g, cap, cur, hv, hg, ?_, r⟩
      rw [hb g (by rw [hv]; rfl)]; exact hh
  cases m with
  | own => exact own h
  | full => exact own h
  | rep =>
    obtain ⟨ad, cap, hv, hn, hm, hl, hc⟩ := h
    refine ⟨ad, cap, hv, hn, hm, hl, fun j u hj => ?_⟩
    have hblk : (ad.add j).block = ad.block := by unfold Addr.add; split <;> rfl
    rw [World.cell?_of_block (w := w) (w' := w') (a := ad.add j) (by rw [hblk]; exact hb _ (by rw [hv]; rfl))]
    exact hc j u hj

theorem R.mono {P : Program} {w : World} {m : M} {fp fp' : Nat → Prop} {v : PV} {c : Value} (h : R P w m fp v c) (hf : ∀ k, fp k → fp' k) : R P w m fp' v c := by
  induction h generalizing fp' with
  | unk => exact .unk
  | flat h => exact .flat h
  | agg lab hl _ ih => exact .agg lab hl fun i hi => ih i hi (part_mono hf)
  | row lab cs hsz hpos hrow hfp _ ih => exact .row lab cs hsz hpos hrow (fun k hk => hf k (hfp k hk)) fun i hi => ih i hi (part_mono hf)

theorem R.frame {P : Program} {w w' : World} {m : M} {fp : Nat → Prop} {v : PV} {c : Value} (h : R P w m fp v c) (hb : ∀ k, fp k → w'.heap[k]? = w.heap[k]?) : R P w' m fp v c := by
  induction h with
  | unk => exact .unk
  | flat h => exact .flat h
  | agg lab hl _ ih => exact .agg lab hl fun i hi => ih i hi fun k hk => hb k (part_sub k hk)
  | row lab cs hsz hpos hrow hfp _ ih => exact .row lab cs hsz hpos (hrow.frame fun k hk => hb k (hfp k hk)) hfp fun i hi => ih i hi fun k hk => hb k (part_sub k hk)

theorem RowOk.rep {P : Program} {w : World} {m : M} {e : Nat} {v : Value} {n : Nat} {cs : List Value} (h : RowOk P w m e v n cs) : RowOk P w .rep e v n cs := by
  have own : (w.ownsRow 0 e (P.cellsOf e) v n cs ∧ v.ownBlock ≠ none) → RowOk P w .rep e v n cs := by
    rintro ⟨ho, hn⟩
    rcases ho.2 with ⟨rfl, _⟩ | ⟨g, cap, cur, rfl, hg, hh, h1, h2, h3, h4⟩
    · exact absurd rfl hn
    · exact ⟨⟨g, 0, none⟩, cap, rfl, h1, h2, ho.1, ho.cells (g := g) rfl⟩
  cases m with
  | own => exact own h
  | full => exact own h
  | rep => exact h

theorem R.rep {P : Program} {w : World} {m : M} {fp : Nat → Prop} {v : PV} {c : Value} (h : R P w m fp v c) : R P w .rep fp v c := by
  induction h with
  | unk => exact .unk
  | flat h => exact .flat h
  | agg lab hl _ ih => exact .agg lab hl fun i hi => (ih i hi).mono part_sub
  | row lab cs hsz hpos hrow hfp _ ih => exact .row lab cs hsz hpos hrow.rep hfp fun i hi => (ih i hi).mono part_sub

theorem R.full {P : Program} {w : World} {fp : Nat → Prop} {v : PV} {c : Value} {m : M} (h : R P w m fp v c) (hm : m ≠ .rep) : R P w .full fp v c := by
  induction h with
  | unk => exact .unk
  | flat h => exact .flat h
  | agg lab hl _ ih => exact .agg lab hl fun i hi => (ih i hi).mono part_sub
  | row lab cs hsz hpos hrow hfp _ ih =>
    refine .row lab cs hsz hpos ?_ hfp fun i hi => (ih i hi).mono part_sub
    cases m with
    | own => exact hrow
    | full => exact hrow
    | rep => exact absurd rfl hm

/-- What leads nowhere reads the same everywhere, and is as sure as one likes. -/
theorem R.nowhere {P : Program} {w w' : World} {m m' : M} {fp fp' : Nat → Prop} {v : PV} {c : Value} (h : R P w m fp v c) (hn : ∀ k, ¬ fp k) : R P w' m' fp' v c := by
  induction h generalizing fp' with
  | unk => exact .unk
  | flat h => exact .flat h
  | agg lab hl _ ih => exact .agg (fun _ => 0) hl fun i hi => ih i hi (fun k hk => hn k (part_sub k hk))
  | @row fp e xs v lab cs hsz hpos hrow hfp _ ih =>
    exfalso
    obtain ⟨ad, cap, rfl, _⟩ := hrow.rep
    exact hn _ (hfp _ rfl)

end Go.Den
set_option autoImplicit false
namespace Go.Den

/-- What a variable in memory holds: rows of its own; what is shared; what nobody writes any more; a function. -/
inductive CK where
  | own | sh | fz | fn
  deriving DecidableEq, Inhabited, Repr
/-- Whose a block is. -/
inductive Lab where
  | no | sh | nw | s (x : Nat) | t (x j : Nat) | res (j : Nat) | b (r j : Nat) | bk (r : Nat)
  deriving DecidableEq, Inhabited
inductive TK where
  | fl | own | sh | fz | dd
  deriving DecidableEq, Inhabited, Repr
/-- What is known of a slot's value. -/
inductive G where
  | dead | fl | own | sh | fz | rn | rd (x : Nat) | al (x : Nat) | bal (u n : Nat) | brd | ptr (ck : CK) (mine : Bool) | fn | ea (t : Nat) | tup (ks : List TK) | mo (m : Nat) | eal (t u : Nat) | hole (u : Nat) (m : Option Nat) | pm (m : Nat)
  deriving DecidableEq, Inhabited, Repr

def Lab.isB : Lab → Prop
  | .b _ _ => True
  | _ => False
def Lab.isK : Lab → Prop
  | .bk _ | .res _ => True
  | _ => False

/-- The blocks that a slot's value may lead to. -/
def G.uses : G → Nat → Lab → Prop
  | .own, i, l => l = .s i
  | .sh, _, l => l = .sh
  | .fz, _, l => l = .nw
  | .rn, _, l => l = .nw
  | .rd x, _, l => l = .s x
  | .al x, _, l => l = .s x
  | .brd, _, l => l.isB
  | .mo _, i, l => l = .s i
  | .hole _ _, i, l => l = .s i
  | .eal t _, _, l => l = .s t
  | .tup _, i, l => (∃ j, l = .t i j) ∨ l = .sh ∨ l = .nw
  | _, _, _ => False
/-- The slots on whose value this one leans. -/
def G.deps : G → Nat → Prop
  | .al x, y => x = y
  | .bal u _, y => u = y
  | .ea t, y => t = y
  | .eal t u, y => t = y ∨ u = y
  | .hole u _, y => u = y
  | _, _ => False
def G.boxy : G → Prop
  | .ptr _ _ | .fn | .bal _ _ | .pm _ => True
  | _ => False

/-- The call: the variables in memory that it found (what they hold, where they lie), and how many of them it only reads. -/
structure Cx where
  P : Program
  b0 : List (CK × Nat)
  lim : Nat
  hd : Nat → Value
def Cx.n0 (X : Cx) : Nat := X.b0.length

abbrev Boxes := List (CK × List PV)

def Cx.view (X : Cx) (r : Nat) (ck : CK) : CK := if r < X.lim ∧ ck ≠ .fn then .sh else ck
/-- The variables that were found are still there. -/
def Kept0 (X : Cx) (H : Boxes) (bm : Nat → Nat) : Prop := X.lim ≤ X.n0 ∧ ∀ r p, X.b0[r]? = some p → ∃ b : CK × List PV, H[r]? = some b ∧ b.1 = p.1 ∧ bm r = p.2
theorem Kept0.len {X : Cx} {H : Boxes} {bm : Nat → Nat} (h : Kept0 X H bm) : X.n0 ≤ H.length := by
  rcases Nat.eq_zero_or_pos X.n0 with h0 | h0
  · omega
  · obtain ⟨b, hb, _⟩ := h.2 (X.n0 - 1) (X.b0[X.n0 - 1]'(by unfold Cx.n0 at *; omega)) (List.getElem?_eq_getElem _)
    have := (List.getElem?_eq_some_iff.1 hb).1
    omega
theorem Kept0.step {X : Cx} {H H' : Boxes} {bm bm' : Nat → Nat} (h : Kept0 X H bm) (hs : ∀ r b, H[r]? = some b → ∃ b' : CK × List PV, H'[r]? = some b' ∧ b'.1 = b.1 ∧ bm' r = bm r) : Kept0 X H' bm' :=
  ⟨h.1, fun r p hp => by
    obtain ⟨b, h1, h2, h3⟩ := h.2 r p hp
    obtain ⟨b', g1, g2, g3⟩ := hs r b h1
    exact ⟨b', g1, g2.trans h2, g3.trans h3⟩⟩
theorem Kept0.get {X : Cx} {H : Boxes} {bm : Nat → Nat} (h : Kept0 X H bm) {r : Nat} {b : CK × List PV} (hb : H[r]? = some b) (hr : r < X.n0) : X.b0[r]? = some (b.1, bm r) := by
  have : X.b0[r]? = some (X.b0[r]'hr) := List.getElem?_eq_getElem _
  obtain ⟨b', h1, h2, h3⟩ := h.2 r _ this
  rw [hb] at h1; injection h1 with h1; subst h1
  rw [this, h2, h3]

def FnOk (bm : Nat → Nat) (n : Nat) (v : PV) (c : Value) : Prop :=
  (v = .nilf ∧ c = .nilFunc) ∨ ∃ g caps cs, v = .fn g caps ∧ c = .func (.func g) #[] cs ∧ cs.size = caps.length ∧
    ∀ i, i < caps.length → ∃ r j, caps.getD i .undef = .ref r j ∧ r < n ∧ cs.getD i undef = .pointer (some ⟨bm r, j, none⟩)
def PtrOk (X : Cx) (bm : Nat → Nat) (H : Boxes) (ck : CK) (mine : Bool) (v : PV) (c : Value) : Prop :=
  ∃ r j b, v = .ref r j ∧ c = .pointer (some ⟨bm r, j, none⟩) ∧ H[r]? = some b ∧ X.view r b.1 = ck ∧ (mine = true → X.n0 ≤ r) ∧ (mine = false → r < X.n0)

/-- The whole of a state: pure and of the machine. -/
structure S where
  σ : List PV
  H : Boxes
  L : Nat → Lab
  bm : Nat → Nat
  a : Act
  w : World

namespace S
def v (s : S) (i : Nat) : PV := s.σ.getD i .undef
def c (s : S) (i : Nat) : Value := s.a.tmps.getD i undef
def fp (s : S) (p : Lab → Prop) : Nat → Prop := fun k => p (s.L k)
end S

def TkOk (P : Program) (s : S) (l : Lab) (v : PV) (c : Value) : TK → Prop
  | .fl => R P s.w .rep (fun _ => False) v c
  | .own => R P s.w .own (s.fp (· = l)) v c
  | .sh => R P s.w .rep (s.fp (· = .sh)) v c
  | .fz => R P s.w .full (s.fp (· = .nw)) v c
  | .dd => True

/-- A cell of an element, anew. -/
def putCells (cs : List PV) (j : Nat) (new : List PV) : List PV :=
  match new with
  | [v] => cs.set j v
  | _ => cs.take j ++ new ++ cs.drop (j + new.length)
def reCell (x : PV) (j : Nat) (y : PV) : PV :=
  match x with
  | .agg cs => .agg (putCells cs j y.cells)
  | _ => y

def Real (X : Cx) (s : S) (i : Nat) (v : PV) (c : Value) : G → Prop
  | .dead => True
  | .fl => R X.P s.w .rep (fun _ => False) v c
  | .own => R X.P s.w .own (s.fp (· = .s i)) v c
  | .sh => R X.P s.w .rep (s.fp (· = .sh)) v c
  | .fz => R X.P s.w .full (s.fp (· = .nw)) v c
  | .rn => R X.P s.w .rep (s.fp (· = .nw)) v c
  | .rd x => R X.P s.w .rep (s.fp (· = .s x)) v c
  | .al x => R X.P s.w .own (s.fp (· = .s x)) v c ∧ v = s.v x ∧ c = s.c x
  | .bal u n => ∃ r j b vals e, s.v u = .ref r j ∧ s.H[r]? = some b ∧ X.view r b.1 = .own ∧ s.w.heap[s.bm r]? = some (.cells vals e (0, 0)) ∧
      (if n = 0 then b.2[j]? = some v ∧ vals[j]? = some c else j + n ≤ b.2.length ∧ v = .agg ((b.2.drop j).take n) ∧ c = .agg (vals.extract j (j + n)))
  | .brd => R X.P s.w .rep (s.fp Lab.isB) v c
  | .ptr ck mine => PtrOk X s.bm s.H ck mine v c
  | .fn => FnOk s.bm s.H.length v c
  | .ea t => ∃ i j e xs ad cap, v = .eix i j ∧ s.v t = .sl e xs ∧ i < xs.length ∧ s.c t = .slice (some ad) xs.length cap ∧ c = .pointer (some (ad.add (i * X.P.cellsOf e + j)))
  | .mo m => R X.P s.w .own (s.fp (· = .s i)) v c ∧ c = X.hd m
  | .eal t u => ∃ q j e xs x ad cap, s.v u = .eix q j ∧ s.v t = .sl e xs ∧ xs[q]? = some x ∧ x.cells[j]? = some v ∧ s.c t = .slice (some ad) xs.length cap ∧ s.w.cell? (ad.add (q * X.P.cellsOf e + j)) = some c ∧ s.L ad.block = .s t ∧ R X.P s.w .rep (s.fp (· = .s t)) v c
  | .hole u m => ∃ q j e xs x, s.v u = .eix q j ∧ v = .sl e xs ∧ xs[q]? = some x ∧ j < x.cells.length ∧ R X.P s.w .own (s.fp (· = .s i)) (.sl e (xs.set q (reCell x j .undef))) c ∧ ∀ m', m = some m' → c = X.hd m'
  | .pm m => ∃ r b vals e, v = .ref r 0 ∧ c = .pointer (some ⟨s.bm r, 0, none⟩) ∧ s.H[r]? = some b ∧ X.view r b.1 = .own ∧ X.n0 ≤ r ∧ s.w.heap[s.bm r]? = some (.cells vals e (0, 0)) ∧ X.hd m = .agg vals
  | .tup ks => ∃ vs cs, v = .tup vs ∧ c = .tuple cs ∧ cs.size = vs.length ∧ ks.length = vs.length ∧ ∀ j, j < vs.length → TkOk X.P s (.t i j) (vs.getD j .undef) (cs.getD j undef) (ks.getD j .fl)

def SlotOk (X : Cx) (s : S) (i : Nat) (g : G) : Prop := s.v i = .undef ∨ Real X s i (s.v i) (s.c i) g

def CellOk (X : Cx) (s : S) (r j : Nat) (v : PV) (c : Value) : CK → Prop
  | .own => R X.P s.w .own (s.fp (· = .b r j)) v c
  | .sh => R X.P s.w .rep (s.fp (· = .sh)) v c
  | .fz => R X.P s.w .full (s.fp (· = .nw)) v c
  | .fn => v = .undef ∨ FnOk s.bm s.H.length v c

def BoxOk (X : Cx) (s : S) (r : Nat) (b : CK × List PV) : Prop :=
  ∃ vals e, s.w.heap[s.bm r]? = some (.cells vals e (0, 0)) ∧ s.L (s.bm r) = .bk r ∧ vals.size = b.2.length ∧ ∀ j, j < b.2.length → CellOk X s r j (b.2.getD j .undef) (vals.getD j undef) (X.view r b.1)

structure Sim (X : Cx) (Γ : List G) (s : S) : Prop where
  lenG : Γ.length = s.σ.length
  lenA : s.a.tmps.size = s.σ.length
  defs : s.a.defers = []
  slot : ∀ i g, Γ[i]? = some g → SlotOk X s i g
  box : ∀ r b, s.H[r]? = some b → BoxOk X s r b
  top : ∀ k, s.w.heap.size ≤ k → s.L k = .no
  n0 : Kept0 X s.H s.bm

/-- What a call leaves of what was there when it began. -/
def keeps (X : Cx) : Lab → Prop
  | .no | .sh | .nw => True
  | .b r _ => r < X.lim
  | .bk r => r < X.lim ∨ ∃ p, X.b0[r]? = some p ∧ (p.1 = .sh ∨ p.1 = .fn)
  | _ => False
structure Fr (X : Cx) (L0 : Nat → Lab) (w0 : World) (L : Nat → Lab) (w : World) : Prop where
  os : w.os = w0.os
  tape : w.tape = w0.tape
  output : w.output = w0.output
  size : w0.heap.size ≤ w.heap.size
  keep : ∀ k, k < w0.heap.size → keeps X (L0 k) → w.heap[k]? = w0.heap[k]? ∧ L k = L0 k

theorem Fr.refl (X : Cx) (L0 : Nat → Lab) (w0 : World) : Fr X L0 w0 L0 w0 := ⟨rfl, rfl, rfl, Nat.le_refl _, fun _ _ _ => ⟨rfl, rfl⟩⟩
theorem Fr.trans {X : Cx} {L0 L1 L2 : Nat → Lab} {w0 w1 w2 : World} (h : Fr X L0 w0 L1 w1) (g : Fr X L1 w1 L2 w2) : Fr X L0 w0 L2 w2 :=
  ⟨g.os.trans h.os, g.tape.trans h.tape, g.output.trans h.output, Nat.le_trans h.size g.size, fun k hk hl => by
    obtain ⟨h1, h2⟩ := h.keep k hk hl
    obtain ⟨g1, g2⟩ := g.keep k (Nat.lt_of_lt_of_le hk h.size) (by rw [h2]; exact hl)
    exact ⟨g1.trans h1, g2.trans h2⟩⟩

/-- One slot's knowledge outlives a step. -/
structure Out (X : Cx) (s s' : S) (i : Nat) (g : G) : Prop where
  v : s'.v i = s.v i
  c : s'.c i = s.c i
  lab : ∀ k, g.uses i (s.L k) → s'.L k = s.L k ∧ s'.w.heap[k]? = s.w.heap[k]?
  dep : ∀ x, g.deps x → s'.v x = s.v x ∧ s'.c x = s.c x
  boxes : g.boxy → ∀ r b, s.H[r]? = some b → ∃ b', s'.H[r]? = some b' ∧ b'.1 = b.1 ∧ s'.bm r = s.bm r ∧ ((∃ u n j, g = .bal u n ∧ s.v u = .ref r j) → X.view r b.1 = .own → b' = b ∧ s'.w.heap[s.bm r]? = s.w.heap[s.bm r]?)
  vals : ∀ m r j, g = .pm m → s.v i = .ref r j → s'.w.heap[s.bm r]? = s.w.heap[s.bm r]?

theorem R.step {P : Program} {s s' : S} {m : M} {p : Lab → Prop} {v : PV} {c : Value} (h : R P s.w m (s.fp p) v c) (hk : ∀ k, p (s.L k) → s'.L k = s.L k ∧ s'.w.heap[k]? = s.w.heap[k]?) : R P s'.w m (s'.fp p) v c :=
  (h.frame fun k hp => (hk k hp).2).mono fun k hp => show p (s'.L k) by rw [(hk k hp).1]; exact hp

theorem TkOk.step {P : Program} {s s' : S} {i j : Nat} {v : PV} {c : Value} {tk : TK} (h : TkOk P s (.t i j) v c tk) (hk : ∀ k, (G.tup []).uses i (s.L k) → s'.L k = s.L k ∧ s'.w.heap[k]? = s.w.heap[k]?) : TkOk P s' (.t i j) v c tk := by
  cases tk with
  | fl => exact R.nowhere h fun _ h => h
  | own => exact R.step h fun k hp => hk k (.inl ⟨j, hp⟩)
  | sh => exact R.step h fun k hp => hk k (.inr (.inl hp))
  | fz => exact R.step h fun k hp => hk k (.inr (.inr hp))
  | dd => trivial

theorem FnOk.step {bm bm' : Nat → Nat} {n n' : Nat} {v : PV} {c : Value} (h : FnOk bm n v c) (hn : n ≤ n') (hb : ∀ r, r < n → bm' r = bm r) : FnOk bm' n' v c := by
  rcases h with h | ⟨g, caps, cs, hv, hc, hs, h⟩
  · exact .inl h
  · refine .inr ⟨g, caps, cs, hv, hc, hs, fun i hi => ?_⟩
    obtain ⟨r, j, h1, h2, h3⟩ := h i hi
    exact ⟨r, j, h1, Nat.lt_of_lt_of_le h2 hn, by rw [h3, hb r h2]⟩

theorem boxes_len {s s' : S} (h : ∀ r b, s.H[r]? = some b → ∃ b' : CK × List PV, s'.H[r]? = some b' ∧ b'.1 = b.1 ∧ s'.bm r = s.bm r) : s.H.length ≤ s'.H.length := by
  rcases Nat.eq_zero_or_pos s.H.length with h0 | h0
  · omega
  · obtain ⟨b', hb, _⟩ := h (s.H.length - 1) (s.H[s.H.length - 1]'(by omega)) (List.getElem?_eq_getElem _)
    have := (List.getElem?_eq_some_iff.1 hb).1
    omega

theorem SlotOk.out {X : Cx} {s s' : S} {i : Nat} {g : G} (h : SlotOk X s i g) (o : Out X s s' i g) : SlotOk X s' i g := by
  rcases h with h | h
  · exact .inl (o.v.trans h)
  · right
    rw [o.v, o.c]
    cases g with
    | dead => trivial
    | fl => exact R.nowhere h fun _ h => h
    | own => exact R.step h o.lab
    | sh => exact R.step h o.lab
    | fz => exact R.step h o.lab
    | rn => exact R.step h o.lab
    | rd x => exact R.step h o.lab
    | al x =>
      obtain ⟨d1, d2⟩ := o.dep x rfl
      exact ⟨R.step h.1 o.lab, h.2.1.trans d1.symm, h.2.2.trans d2.symm⟩
    | bal u n =>
      obtain ⟨r, j, b, vals, e, h1, h2, h3, h4, h5⟩ := h
      obtain ⟨b', hb, hb1, hbm, hb2⟩ := o.boxes trivial r b h2
      obtain ⟨rfl, hh⟩ := hb2 ⟨u, n, j, rfl, h1⟩ h3
      exact ⟨r, j, b', vals, e, (o.dep u rfl).1.trans h1, hb, h3, by rw [hbm, hh]; exact h4, h5⟩
    | brd => exact R.step h o.lab
    | ptr ck mine =>
      obtain ⟨r, j, b, h1, h2, h3, h4, h5⟩ := h
      obtain ⟨b', hb, hb1, hbm, _⟩ := o.boxes trivial r b h3
      exact ⟨r, j, b', h1, by rw [hbm]; exact h2, hb, by rw [hb1]; exact h4, h5⟩
    | fn =>
      refine FnOk.step h (boxes_len fun r b hr => ?_) fun r hr => ?_
      · obtain ⟨b', hb, hb1, hbm, _⟩ := o.boxes trivial r b hr
        exact ⟨b', hb, hb1, hbm⟩
      · obtain ⟨b', hb, hb1, hbm, _⟩ := o.boxes trivial r _ (List.getElem?_eq_getElem hr)
        exact hbm
    | ea t =>
      obtain ⟨i, j, e, xs, ad, cap, h1, h2, h3, h4, h5⟩ := h
      obtain ⟨d1, d2⟩ := o.dep t rfl
      exact ⟨i, j, e, xs, ad, cap, h1, d1.trans h2, h3, d2.trans h4, h5⟩
    | tup ks =>
      obtain ⟨vs, cs, h1, h2, h3, h4, h5⟩ := h
      exact ⟨vs, cs, h1, h2, h3, h4, fun j hj => (h5 j hj).step o.lab⟩
    | mo m => exact ⟨R.step h.1 o.lab, h.2⟩
    | eal t u =>
      obtain ⟨q, j, e, xs, x, ad, cap, h1, h2, h3, h4, h5, h6, h7, h8⟩ := h
      obtain ⟨d1, d2⟩ := o.dep t (.inl rfl)
      obtain ⟨d3, _⟩ := o.dep u (.inr rfl)
      obtain ⟨l1, l2⟩ := o.lab _ h7
      refine ⟨q, j, e, xs, x, ad, cap, d3.trans h1, d1.trans h2, h3, h4, d2.trans h5, ?_, l1.trans h7, R.step h8 o.lab⟩
      have hblk : (ad.add (q * X.P.cellsOf e + j)).block = ad.block := by unfold Addr.add; split <;> rfl
      rw [World.cell?_of_block (w := s.w) (w' := s'.w) (a := ad.add (q * X.P.cellsOf e + j)) (by rw [hblk]; exact l2)]
      exact h6
    | hole u m =>
      obtain ⟨q, j, e, xs, x, h1, h2, h3, h4, h5, h6⟩ := h
      exact ⟨q, j, e, xs, x, (o.dep u rfl).1.trans h1, h2, h3, h4, R.step h5 o.lab, h6⟩
    | pm m =>
      obtain ⟨r, b, vals, e, h1, h2, h3, h4, h5, h6, h7⟩ := h
      obtain ⟨b', hb, hb1, hbm, _⟩ := o.boxes trivial r b h3
      exact ⟨r, b', vals, e, h1, by rw [hbm]; exact h2, hb, by rw [hb1]; exact h4, h5, by rw [hbm, o.vals m r 0 rfl h1]; exact h6, h7⟩

end Go.Den
set_option autoImplicit false
namespace Go.Den

/-! ### What a step makes unsure -/
def kills (t : Option Nat) (bx : Bool) (i : Nat) : G → Bool
  | .own | .mo _ | .hole _ _ => t == some i
  | .rd x | .al x | .eal x _ => t == some x
  | .bal _ _ | .brd | .pm _ => bx
  | _ => false
def depsB (d : Nat) : G → Bool
  | .al x | .rd x | .ea x => x == d
  | .bal u _ => u == d
  | .eal x u => x == d || u == d
  | .hole u _ => u == d
  | _ => false
def touchGo (t : Option Nat) (bx : Bool) : Nat → List G → List G
  | _, [] => []
  | i, g :: Γ => (if kills t bx i g then .dead else g) :: touchGo t bx (i + 1) Γ
def touchG (t : Option Nat) (bx : Bool) (Γ : List G) : List G := match t, bx with
  | none, false => Γ
  | t, bx => touchGo t bx 0 Γ
theorem touchGo_get {t : Option Nat} {bx : Bool} : ∀ {Γ : List G} {i j : Nat}, (touchGo t bx j Γ)[i]? = Γ[i]?.map fun g => if kills t bx (j + i) g then .dead else g
  | [], i, j => by simp [touchGo]
  | g :: Γ, 0, j => by simp [touchGo]
  | g :: Γ, i + 1, j => by
    simp only [touchGo, List.getElem?_cons_succ]
    rw [touchGo_get, show j + 1 + i = j + (i + 1) by omega]
theorem touchG_eq (t : Option Nat) (bx : Bool) (Γ : List G) : touchG t bx Γ = Γ.mapIdx fun i g => if kills t bx i g then .dead else g := by
  apply List.ext_getElem?
  intro i
  rw [List.getElem?_mapIdx]
  unfold touchG
  split
  · have hk : ∀ g, kills none false i g = false := by intro g; cases g <;> rfl
    simp [hk]
  · rw [touchGo_get]; simp
def killD (d : Nat) (Γ : List G) : List G := Γ.map fun g => if depsB d g then .dead else g
def setG (t : Option Nat) (bx : Bool) (d : Nat) (g : G) (Γ : List G) : List G := (killD d (touchG t bx Γ)).set d g

def okLab (t : Option Nat) (bx : Bool) (l : Lab) : Prop := (∀ x, t = some x → l ≠ .s x) ∧ (bx = true → ¬ l.isB) ∧ ¬ l.isK

theorem touchG_get {t : Option Nat} {bx : Bool} {Γ : List G} {i : Nat} {g : G} (h : (touchG t bx Γ)[i]? = some g) : g = .dead ∨ (Γ[i]? = some g ∧ kills t bx i g = false) := by
  simp only [touchG_eq, List.getElem?_mapIdx, Option.map_eq_some_iff] at h
  obtain ⟨g0, h0, h1⟩ := h
  by_cases hk : kills t bx i g0 = true
  · rw [if_pos hk] at h1; exact .inl h1.symm
  · rw [if_neg hk] at h1; subst h1; exact .inr ⟨h0, by simpa using hk⟩
theorem killD_get {d : Nat} {Γ : List G} {i : Nat} {g : G} (h : (killD d Γ)[i]? = some g) : g = .dead ∨ (Γ[i]? = some g ∧ depsB d g = false) := by
  simp only [killD, List.getElem?_map, Option.map_eq_some_iff] at h
  obtain ⟨g0, h0, h1⟩ := h
  by_cases hk : depsB d g0 = true
  · rw [if_pos hk] at h1; exact .inl h1.symm
  · rw [if_neg hk] at h1; subst h1; exact .inr ⟨h0, by simpa using hk⟩
theorem setG_len {t : Option Nat} {bx : Bool} {d : Nat} {g : G} {Γ : List G} : (setG t bx d g Γ).length = Γ.length := by simp [setG, killD, touchG_eq]
theorem touchG_len {t : Option Nat} {bx : Bool} {Γ : List G} : (touchG t bx Γ).length = Γ.length := by simp [touchG_eq]

theorem uses_ok {t : Option Nat} {bx : Bool} {i : Nat} {g : G} (h : kills t bx i g = false) : ∀ l, g.uses i l → okLab t bx l := by
  intro l hl
  cases g <;> simp only [G.uses] at hl <;> simp only [kills] at h
  case own => subst hl; exact ⟨fun x hx hy => by subst hx; injection hy with hy; subst hy; simp at h, fun _ hb => hb, fun hb => hb⟩
  case sh => subst hl; exact ⟨fun x _ hy => (by cases hy), fun _ hb => hb, fun hb => hb⟩
  case fz => subst hl; exact ⟨fun x _ hy => (by cases hy), fun _ hb => hb, fun hb => hb⟩
  case rn => subst hl; exact ⟨fun x _ hy => (by cases hy), fun _ hb => hb, fun hb => hb⟩
  case rd y => subst hl; exact ⟨fun x hx hy => by subst hx; injection hy with hy; subst hy; simp at h, fun _ hb => hb, fun hb => hb⟩
  case al y => subst hl; exact ⟨fun x hx hy => by subst hx; injection hy with hy; subst hy; simp at h, fun _ hb => hb, fun hb => hb⟩
  case mo m => subst hl; exact ⟨fun x hx hy => by subst hx; injection hy with hy; subst hy; simp at h, fun _ hb => hb, fun hb => hb⟩
  case hole u m => subst hl; exact ⟨fun x hx hy => by subst hx; injection hy with hy; subst hy; simp at h, fun _ hb => hb, fun hb => hb⟩
  case eal y u => subst hl; exact ⟨fun x hx hy => by subst hx; injection hy with hy; subst hy; simp at h, fun _ hb => hb, fun hb => hb⟩
  case brd => cases l <;> simp [Lab.isB] at hl; exact ⟨fun x _ hy => (by cases hy), fun hb => by simp [h] at hb, fun hb => hb⟩
  case tup ks =>
    rcases hl with ⟨j, rfl⟩ | rfl | rfl <;> exact ⟨fun x _ hy => (by cases hy), fun _ hb => hb, fun hb => hb⟩

/-- From s to s1: no slot written; labels and blocks of 'ok' stay; variables in memory stay, but for what they hold. -/
structure Stay (t : Option Nat) (bx : Bool) (s s1 : S) : Prop where
  σ : s1.σ = s.σ
  a : s1.a = s.a
  lab : ∀ k, okLab t bx (s.L k) → k < s.w.heap.size → s1.L k = s.L k ∧ s1.w.heap[k]? = s.w.heap[k]?
  boxes : ∀ r b, s.H[r]? = some b → ∃ b', s1.H[r]? = some b' ∧ b'.1 = b.1 ∧ s1.bm r = s.bm r ∧ (bx = false → b.1 = .own → b' = b ∧ s1.w.heap[s.bm r]? = s.w.heap[s.bm r]?)

theorem uses_no {g : G} {i : Nat} : ¬ g.uses i .no := by
  cases g <;> simp [G.uses, Lab.isB]

theorem view_own {X : Cx} {r : Nat} {ck : CK} (h : X.view r ck = .own) : ck = .own := by
  unfold Cx.view at h
  split at h
  · cases h
  · exact h

theorem Stay.out {X : Cx} {Γ : List G} {s s1 : S} {t : Option Nat} {bx : Bool} (h : Sim X Γ s) (st : Stay t bx s s1) {i : Nat} {g : G} (hg : (touchG t bx Γ)[i]? = some g) (hd : g ≠ .dead) : SlotOk X s1 i g := by
  rcases touchG_get hg with h0 | ⟨h0, hk⟩
  · exact absurd h0 hd
  have hv : ∀ j, s1.v j = s.v j := fun j => by simp [S.v, st.σ]
  have hc : ∀ j, s1.c j = s.c j := fun j => by simp [S.c, st.a]
  have hs := h.slot i g h0
  rcases hs with hs | hs
  · exact .inl ((hv i).trans hs)
  refine SlotOk.out (.inr hs) ⟨hv i, hc i, fun k hu => ?_, fun x _ => ⟨hv x, hc x⟩, fun _ r b hr => ?_, ?_⟩
  · refine st.lab k (uses_ok hk _ hu) ?_
    rcases Nat.lt_or_ge k s.w.heap.size with hlt | hge
    · exact hlt
    · exact absurd (h.top k hge ▸ hu) uses_no
  · obtain ⟨b', h1, h2, h3, h4⟩ := st.boxes r b hr
    refine ⟨b', h1, h2, h3, ?_⟩
    rintro ⟨u, n, j, rfl, _⟩ hv
    exact h4 (by simpa [kills] using hk) (view_own hv)
  · rintro m r j rfl hrj
    obtain ⟨r', b, vals, e, p1, p2, p3, p4, p5, p6, p7⟩ := hs
    rw [hrj] at p1
    injection p1 with p1 _
    subst p1
    obtain ⟨b', h1, h2, h3, h4⟩ := st.boxes r b p3
    exact (h4 (by simpa [kills] using hk) (view_own p4)).2


/-! ### A slot written -/
def S.put (s : S) (d : Nat) (v : PV) (c : Value) : S := { s with σ := s.σ.set d v, a := s.a.put (some d) c }

theorem S.put_v_ne {s : S} {d i : Nat} {v : PV} {c : Value} (h : i ≠ d) : (s.put d v c).v i = s.v i := by
  simp [S.v, S.put, List.getElem?_set_ne (Ne.symm h)]
theorem S.put_c_ne {s : S} {d i : Nat} {v : PV} {c : Value} (h : i ≠ d) : (s.put d v c).c i = s.c i := by
  simp [S.c, S.put, Act.put, Array.getElem?_setIfInBounds_ne (Ne.symm h)]
theorem S.put_v {s : S} {d : Nat} {v : PV} {c : Value} (h : d < s.σ.length) : (s.put d v c).v d = v := by
  simp [S.v, S.put, List.getElem?_set_self h]
theorem S.put_c {s : S} {d : Nat} {v : PV} {c : Value} (h : d < s.a.tmps.size) : (s.put d v c).c d = c := by
  simp [S.c, S.put, Act.put, h]

theorem Sim.put {X : Cx} {Γ : List G} {s s1 : S} {t : Option Nat} {bx : Bool} {d : Nat} {g : G} {v : PV} {c : Value} (h : Sim X Γ s) (st : Stay t bx s s1) (hd : d < Γ.length)
    (box : ∀ r b, s1.H[r]? = some b → BoxOk X s1 r b) (top : ∀ k, s1.w.heap.size ≤ k → s1.L k = .no) (new : v = .undef ∨ Real X (s1.put d v c) d v c g) : Sim X (setG t bx d g Γ) (s1.put d v c) := by
  have hl : d < s1.σ.length := by rw [st.σ, ← h.lenG]; exact hd
  have ha : d < s1.a.tmps.size := by rw [st.a, h.lenA, ← h.lenG]; exact hd
  refine ⟨?_, ?_, ?_, ?_, box, top, h.n0.step fun r b hr => (st.boxes r b hr).imp fun _ hb => ⟨hb.1, hb.2.1, hb.2.2.1⟩⟩
  · rw [setG_len, h.lenG, ← st.σ]; simp [S.put]
  · simp [S.put, Act.put, st.a, st.σ, h.lenA]
  · simp [S.put, Act.put, st.a, h.defs]
  · intro i g' hg
    by_cases hi : i = d
    · subst hi
      have hx : g' = g := by
        have : (setG t bx i g Γ)[i]? = some g := by
          unfold setG; rw [List.getElem?_set_self]; simp [killD, touchG_eq, hd]
        rw [this] at hg; injection hg with hg; exact hg.symm
      subst hx
      unfold SlotOk
      rw [S.put_v hl, S.put_c ha]
      exact new
    · have hg1 : (killD d (touchG t bx Γ))[i]? = some g' := by
        unfold setG at hg; rwa [List.getElem?_set_ne (Ne.symm hi)] at hg
      by_cases hdead : g' = .dead
      · subst hdead; exact .inr trivial
      rcases killD_get hg1 with h0 | ⟨h0, hk⟩
      · exact absurd h0 hdead
      have hs := st.out h h0 hdead
      refine hs.out ⟨S.put_v_ne hi, S.put_c_ne hi, fun k _ => ⟨rfl, rfl⟩, fun x hx => ?_, fun _ r b hr => ⟨b, hr, rfl, rfl, fun _ _ => ⟨rfl, rfl⟩⟩, fun _ _ _ _ _ => rfl⟩
      have hx' : x ≠ d := by
        rintro rfl
        cases g' <;> simp [G.deps] at hx <;> simp_all [depsB]
      exact ⟨S.put_v_ne hx', S.put_c_ne hx'⟩

theorem Sim.ghost {X : Cx} {Γ : List G} {s s1 : S} {t : Option Nat} {bx : Bool} (h : Sim X Γ s) (st : Stay t bx s s1)
    (box : ∀ r b, s1.H[r]? = some b → BoxOk X s1 r b) (top : ∀ k, s1.w.heap.size ≤ k → s1.L k = .no) : Sim X (touchG t bx Γ) s1 := by
  refine ⟨?_, ?_, ?_, ?_, box, top, h.n0.step fun r b hr => (st.boxes r b hr).imp fun _ hb => ⟨hb.1, hb.2.1, hb.2.2.1⟩⟩
  · rw [touchG_len, h.lenG, st.σ]
  · rw [st.a, st.σ, h.lenA]
  · rw [st.a, h.defs]
  · intro i g' hg
    by_cases hdead : g' = .dead
    · subst hdead; exact .inr trivial
    exact st.out h hg hdead

theorem Stay.refl (t : Option Nat) (bx : Bool) (s : S) : Stay t bx s s := ⟨rfl, rfl, fun _ _ _ => ⟨rfl, rfl⟩, fun _ b hb => ⟨b, hb, rfl, rfl, fun _ _ => ⟨rfl, rfl⟩⟩⟩

/-! ### Knowing less -/
def G.le : G → G → Bool
  | _, .dead => true
  | .fl, .own | .fl, .sh | .fl, .fz | .fl, .rn | .fl, .rd _ | .fl, .brd => true
  | .fz, .rn => true
  | .mo _, .own => true
  | .eal t _, .rd t' => t == t'
  | a, b => a == b
def leG : List G → List G → Bool
  | [], [] => true
  | a :: Γ, b :: Γ' => a.le b && leG Γ Γ'
  | _, _ => false
theorem leG_iff : ∀ {Γ Γ' : List G}, leG Γ Γ' = true ↔ Γ.length = Γ'.length ∧ ∀ i, i < Γ.length → (Γ.getD i .dead).le (Γ'.getD i .dead) = true
  | [], [] => by simp [leG]
  | a :: Γ, b :: Γ' => by
    simp only [leG, Bool.and_eq_true, List.length_cons, leG_iff (Γ := Γ)]
    constructor
    · rintro ⟨h1, h2, h3⟩
      refine ⟨by omega, fun i hi => ?_⟩
      cases i with
      | zero => exact h1
      | succ i => exact h3 i (by omega)
    · rintro ⟨h1, h2⟩
      exact ⟨h2 0 (by omega), by omega, fun i hi => h2 (i + 1) (by omega)⟩
  | [], _ :: _ => by simp [leG]
  | _ :: _, [] => by simp [leG]
theorem G.le_refl (g : G) : g.le g = true := by cases g <;> simp [G.le]
theorem leG_refl (Γ : List G) : leG Γ Γ = true := leG_iff.2 ⟨rfl, fun _ _ => G.le_refl _⟩

theorem Real.le {X : Cx} {s : S} {i : Nat} {v : PV} {c : Value} {g g' : G} (h : Real X s i v c g) (hl : g.le g' = true) : Real X s i v c g' := by
  by_cases he : g = g'
  · subst he; exact h
  by_cases hd : g' = .dead
  · subst hd; trivial
  unfold G.le at hl
  split at hl
  · exact absurd rfl hd
  · exact R.nowhere h (fun _ h => h)
  · exact R.nowhere h (fun _ h => h)
  · exact R.nowhere h (fun _ h => h)
  · exact R.nowhere h (fun _ h => h)
  · exact R.nowhere h (fun _ h => h)
  · exact R.nowhere h (fun _ h => h)
  · exact R.rep h
  · exact h.1
  · obtain ⟨_, _, _, _, _, _, _, _, _, _, _, _, _, _, h⟩ := h
    rw [beq_iff_eq] at hl
    subst hl
    exact h
  · exact absurd (by simpa using hl) he

theorem Sim.weaken {X : Cx} {Γ Γ' : List G} {s : S} (h : Sim X Γ s) (hl : leG Γ Γ' = true) : Sim X Γ' s := by
  rw [leG_iff] at hl
  refine ⟨by rw [← hl.1]; exact h.lenG, h.lenA, h.defs, fun i g hg => ?_, h.box, h.top, h.n0⟩
  have hi : i < Γ'.length := (List.getElem?_eq_some_iff.1 hg).1
  have hi' : i < Γ.length := by omega
  have h1 := hl.2 i hi'
  rw [List.getD_eq_getElem?_getD, List.getD_eq_getElem?_getD, hg, List.getElem?_eq_getElem hi'] at h1
  rcases h.slot i _ (List.getElem?_eq_getElem hi') with h2 | h2
  · exact .inl h2
  · exact .inr (h2.le h1)

/-! ### Values that nobody knows any more are struck -/
def maskσ (Γ : List G) (σ : List PV) : List PV := σ.mapIdx fun i v => if Γ.getD i .dead = .dead then .undef else v
def maskOk (Γ : List G) : Bool := Γ.all fun g => match g with
  | .al x => Γ.getD x .dead != .dead
  | .bal u _ => Γ.getD u .dead != .dead
  | .ea t => Γ.getD t .dead != .dead
  | .eal x u => Γ.getD x .dead != .dead && Γ.getD u .dead != .dead
  | .hole u _ => Γ.getD u .dead != .dead
  | _ => true

theorem maskσ_get {Γ : List G} {σ : List PV} {i : Nat} (h : Γ.getD i .dead ≠ .dead) : (maskσ Γ σ).getD i .undef = σ.getD i .undef := by
  simp only [maskσ, List.getD_eq_getElem?_getD, List.getElem?_mapIdx] at h ⊢
  cases σ[i]? with
  | none => rfl
  | some v => simp only [Option.map_some, Option.getD_some]; rw [if_neg h]

theorem Sim.mask {X : Cx} {Γ : List G} {s : S} (h : Sim X Γ s) (hm : maskOk Γ = true) : Sim X Γ { s with σ := maskσ Γ s.σ } := by
  refine ⟨by simp [maskσ, h.lenG], by simp [maskσ, h.lenA], h.defs, fun i g hg => ?_, fun r b hb => h.box r b hb, h.top, h.n0⟩
  by_cases hdead : g = .dead
  · subst hdead; exact .inr trivial
  have hv : ∀ j, Γ.getD j .dead ≠ .dead → (S.v { s with σ := maskσ Γ s.σ } j) = s.v j := fun j hj => maskσ_get hj
  have hgi : Γ.getD i .dead ≠ .dead := by rw [List.getD_eq_getElem?_getD, hg]; exact hdead
  refine (h.slot i g hg).out ⟨hv i hgi, rfl, fun k _ => ⟨rfl, rfl⟩, fun x hx => ⟨hv x ?_, rfl⟩, fun _ r b hr => ⟨b, hr, rfl, rfl, fun _ _ => ⟨rfl, rfl⟩⟩, fun _ _ _ _ _ => rfl⟩
  have := (List.all_eq_true.1 hm) g (List.mem_of_getElem? hg)
  cases g <;> simp only [G.deps] at hx
  case eal y u =>
    simp only [Bool.and_eq_true, bne_iff_ne] at this
    rcases hx with rfl | rfl
    · exact this.1
    · exact this.2
  all_goals (subst hx; simpa using this)

end Go.Den
set_option autoImplicit false
namespace Go.Den

/-! ### Operands -/
def ofValue : Value → PV
  | .int k n => .int k n
  | .bool b => .bool b
  | .string s => .str s
  | .slice none 0 0 => .nil
  | .pointer none => .nilp
  | .nilFunc => .nilf
  | _ => .undef
def valO (σ : List PV) : Operand → PV
  | .tmp t => σ.getD t .undef
  | .const v => ofValue v
  | .func f => .fn f []
  | .global _ => .undef
def kdO (Γ : List G) : Operand → G
  | .tmp t => Γ.getD t .dead
  | .const _ => .fl
  | .func _ => .fn
  | .global _ => .dead
def slotO : Operand → Nat
  | .tmp t => t
  | _ => 0

theorem ofValue_flat (v : Value) : ofValue v = .undef ∨ (ofValue v).flat = some v := by
  unfold ofValue
  split <;> simp [PV.flat]

theorem FnOk.const (bm : Nat → Nat) (n f : Nat) : FnOk bm n (.fn f []) (.func (.func f) #[] #[]) :=
  .inr ⟨f, [], #[], rfl, rfl, rfl, fun i hi => absurd hi (by simp)⟩

/-- What is known of an operand. -/
theorem Sim.opnd {X : Cx} {Γ : List G} {s : S} (h : Sim X Γ s) (o : Operand) : valO s.σ o = .undef ∨ Real X s (slotO o) (valO s.σ o) (s.a.eval o) (kdO Γ o) := by
  cases o with
  | tmp t =>
    simp only [valO, slotO, kdO]
    by_cases ht : t < Γ.length
    · have := h.slot t _ (List.getElem?_eq_getElem ht)
      rw [show Γ.getD t .dead = Γ[t] from by simp [ht]]
      exact this
    · rw [show Γ.getD t .dead = .dead from by rw [List.getD_eq_getElem?_getD, List.getElem?_eq_none (Nat.le_of_not_lt ht)]; rfl]
      exact .inr trivial
  | const v =>
    rcases ofValue_flat v with h | h
    · exact .inl h
    · exact .inr (.flat h)
  | func f => exact .inr (FnOk.const _ _ _)
  | global g => exact .inl rfl

theorem Sim.opnd' {X : Cx} {Γ : List G} {s : S} (h : Sim X Γ s) {o : Operand} {g : G} (hg : kdO Γ o = g) (hv : valO s.σ o ≠ .undef) : Real X s (slotO o) (valO s.σ o) (s.a.eval o) g := by
  rcases h.opnd o with h1 | h1
  · exact absurd h1 hv
  · rw [← hg]; exact h1

/-- The labels that a value of this kind may lead to; none: it is no data. -/
def G.data : G → Nat → Option (Lab → Prop)
  | .fl, _ => some fun _ => False
  | .own, i => some (· = .s i)
  | .sh, _ => some (· = .sh)
  | .fz, _ => some (· = .nw)
  | .rn, _ => some (· = .nw)
  | .rd x, _ => some (· = .s x)
  | .al x, _ => some (· = .s x)
  | .bal _ _, _ => some Lab.isB
  | .brd, _ => some Lab.isB
  | .mo _, i => some (· = .s i)
  | .eal x _, _ => some (· = .s x)
  | _, _ => none

theorem bal_data {X : Cx} {Γ : List G} {s : S} (hs : Sim X Γ s) {u n : Nat} {i : Nat} {v : PV} {c : Value} (h : Real X s i v c (.bal u n)) : ∃ r j, s.v u = .ref r j ∧ (∃ b, s.H[r]? = some b ∧ X.view r b.1 = .own) ∧
    R X.P s.w .own (s.fp fun l => ∃ j', l = .b r j' ∧ j ≤ j' ∧ j' < j + max n 1) v c := by
  obtain ⟨r, j, b, vals, e, h1, h2, h3, h4, h5⟩ := h
  refine ⟨r, j, h1, ⟨b, h2, h3⟩, ?_⟩
  obtain ⟨vals', e', g1, g2, g3, g4⟩ := hs.box r b h2
  rw [h4] at g1
  injection g1 with g1
  injection g1 with g1 _ _
  subst g1
  rw [h3] at g4
  by_cases hn : n = 0
  · subst hn
    simp only [if_true] at h5
    have hj : j < b.2.length := (List.getElem?_eq_some_iff.1 h5.1).1
    have := g4 j hj
    rw [List.getD_eq_getElem?_getD, h5.1, Option.getD_some, show vals.getD j undef = c by rw [Array.getD_eq_getD_getElem?, h5.2]; rfl] at this
    exact R.mono this fun k hk => ⟨j, hk, by omega, by omega⟩
  · rw [if_neg hn] at h5
    obtain ⟨hl, rfl, rfl⟩ := h5
    refine .agg (fun k => match s.L k with | .b _ j' => j' - j | _ => 0) (by simp; omega) fun q hq => ?_
    have hq' : q < n := by simp at hq; omega
    have hg := g4 (j + q) (by omega)
    have e1 : ((b.2.drop j).take n).getD q .undef = b.2.getD (j + q) .undef := by
      simp [List.getD_eq_getElem?_getD, hq']
    have e2 : (vals.extract j (j + n)).getD q undef = vals.getD (j + q) undef := by
      simp only [Array.getD_eq_getD_getElem?, Array.getElem?_extract]
      rw [if_pos (by omega)]
    rw [e1, e2]
    exact R.mono hg fun k hk => ⟨⟨j + q, hk, by omega, by omega⟩, by simp, by show (match s.L k with | .b _ j' => j' - j | _ => 0) = q; rw [show s.L k = .b r (j + q) from hk]; simp⟩

theorem Real.data {X : Cx} {Γ : List G} {s : S} (hs : Sim X Γ s) {i : Nat} {v : PV} {c : Value} {g : G} {p : Lab → Prop} (h : Real X s i v c g) (hp : g.data i = some p) : R X.P s.w .rep (s.fp p) v c := by
  cases g <;> simp only [G.data, Option.some.injEq, reduceCtorEq] at hp
  case fl => subst hp; exact h.nowhere fun _ h => h
  case own => subst hp; exact R.rep h
  case sh => subst hp; exact h
  case fz => subst hp; exact R.rep h
  case rn => subst hp; exact h
  case rd x => subst hp; exact h
  case al x => subst hp; exact R.rep h.1
  case bal u n =>
    subst hp
    obtain ⟨r, j, _, _, hr⟩ := bal_data hs h
    exact (R.rep hr).mono fun k ⟨j', hk, _⟩ => by show (s.L k).isB; rw [show s.L k = .b r j' from hk]; trivial
  case brd => subst hp; exact h
  case mo m => subst hp; exact R.rep h.1
  case eal x u =>
    subst hp
    obtain ⟨_, _, _, _, _, _, _, _, _, _, _, _, _, _, h⟩ := h
    exact h

end Go.Den
set_option autoImplicit false
namespace Go.Den

/-! ### Cells of rows -/
theorem putCells_eq (cs : List PV) (j : Nat) (new : List PV) (h : j + new.length ≤ cs.length) : putCells cs j new = cs.take j ++ new ++ cs.drop (j + new.length) := by
  unfold putCells
  split
  · rename_i v
    simp at h
    rw [List.set_eq_take_append_cons_drop, if_pos (by omega)]
    simp
  · rfl
theorem putCells_len (cs : List PV) (j : Nat) (new : List PV) (h : j + new.length ≤ cs.length) : (putCells cs j new).length = cs.length := by
  rw [putCells_eq cs j new h]; simp; omega
theorem splice_get {α : Type} (cs new : List α) (j q : Nat) (d : α) (h : j + new.length ≤ cs.length) : (cs.take j ++ new ++ cs.drop (j + new.length)).getD q d = if j ≤ q ∧ q < j + new.length then new.getD (q - j) d else cs.getD q d := by
  have hj : (cs.take j).length = j := by simp; omega
  simp only [List.getD_eq_getElem?_getD]
  by_cases h1 : q < j
  · rw [if_neg (by omega), List.append_assoc, List.getElem?_append_left (by omega), List.getElem?_take_of_lt h1]
  · by_cases h2 : q < j + new.length
    · rw [if_pos ⟨by omega, h2⟩, List.getElem?_append_left (by simp; omega), List.getElem?_append_right (by omega), hj]
    · rw [if_neg (by omega), List.getElem?_append_right (by simp; omega), List.getElem?_drop]
      congr 2
      simp [hj]; omega
theorem flatten_len {xs : List PV} {n : Nat} (h : ∀ x ∈ xs, x.cells.length = n) : (flatten xs).length = xs.length * n := by
  induction xs with
  | nil => simp [flatten]
  | cons x xs ih =>
    have h1 := h x (by simp)
    have h2 := ih (fun y hy => h y (by simp [hy]))
    simp only [flatten, List.flatMap_cons, List.length_append] at h2 ⊢
    rw [h1, h2, List.length_cons, Nat.add_mul]; omega
theorem flatten_get {xs : List PV} {n : Nat} (h : ∀ x ∈ xs, x.cells.length = n) {i j : Nat} {x : PV} (hx : xs[i]? = some x) (hj : j < n) : (flatten xs).getD (i * n + j) .undef = x.cells.getD j .undef := by
  induction xs generalizing i with
  | nil => simp at hx
  | cons y ys ih =>
    have h1 := h y (by simp)
    cases i with
    | zero =>
      simp only [List.getElem?_cons_zero, Option.some.injEq] at hx
      subst hx
      simp only [flatten, List.flatMap_cons, Nat.zero_mul, Nat.zero_add, List.getD_eq_getElem?_getD]
      rw [List.getElem?_append_left (by omega)]
    | succ i =>
      simp only [List.getElem?_cons_succ] at hx
      have := ih (fun z hz => h z (by simp [hz])) hx
      simp only [flatten, List.flatMap_cons, List.getD_eq_getElem?_getD] at this ⊢
      rw [List.getElem?_append_right (by rw [h1, Nat.add_mul]; omega), h1, show (i + 1) * n + j - n = i * n + j by rw [Nat.add_mul]; omega]
      exact this

theorem add_add (a : Addr) (m n : Nat) : (a.add m).add n = a.add (m + n) := by
  unfold Addr.add
  by_cases hm : m = 0
  · subst hm; simp
  · by_cases hn : n = 0
    · subst hn; simp
    · simp [hm, hn, Nat.add_assoc]

/-- An element's cell. -/
theorem R.elem {P : Program} {w : World} {m : M} {fp : Nat → Prop} {e : Nat} {xs : List PV} {c : Value} (h : R P w m fp (.sl e xs) c) {i j : Nat} {x : PV} (hx : xs[i]? = some x) (hj : j < x.cells.length) :
    ∃ ad cap u, c = .slice (some ad) xs.length cap ∧ w.cell? (ad.add (i * P.cellsOf e + j)) = some u ∧ R P w m fp (x.cells.getD j .undef) u := by
  cases h with
  | flat h => simp [PV.flat] at h
  | row lab cs hsz hpos hrow hfp h =>
    obtain ⟨ad, cap, rfl, h1, h2, h3, h4⟩ := hrow.rep
    have hlen := flatten_len hsz
    have hxl := hsz x (List.mem_of_getElem? hx)
    have hi := (List.getElem?_eq_some_iff.1 hx).1
    have hq : i * P.cellsOf e + j < (flatten xs).length := by
      rw [hlen]
      have : (i + 1) * P.cellsOf e ≤ xs.length * P.cellsOf e := Nat.mul_le_mul_right _ hi
      rw [Nat.add_mul] at this; omega
    have hr := h _ hq
    rw [flatten_get hsz hx (by omega)] at hr
    have hcs : i * P.cellsOf e + j < cs.length := by rw [h3, ← hlen]; exact hq
    refine ⟨ad, cap, cs.getD (i * P.cellsOf e + j) Go.undef, rfl, ?_, hr.mono part_sub⟩
    rw [h4 _ _ (List.getElem?_eq_getElem hcs), List.getD_eq_getElem?_getD, List.getElem?_eq_getElem hcs]; rfl

theorem R.own_inv {P : Program} {w : World} {fp : Nat → Prop} {e : Nat} {xs : List PV} {c : Value} (h : R P w .own fp (.sl e xs) c) :
    ∃ g cap cur lab, c = .slice (some ⟨g, 0, none⟩) xs.length cap ∧ w.heap[g]? = some (.cells cur e (0, 0)) ∧ xs.length ≤ cap ∧ cap ≤ maxLen ∧ cur.size = cap * P.cellsOf e ∧ fp g ∧ (∀ x ∈ xs, x.cells.length = P.cellsOf e) ∧ 0 < P.cellsOf e ∧
      ∀ i, i < (flatten xs).length → R P w .own (part .own fp lab (some g) i) ((flatten xs).getD i .undef) (cur.getD i Go.undef) := by
  cases h with
  | flat h => simp [PV.flat] at h
  | row lab cs hsz hpos hrow hfp h =>
    obtain ⟨ho, hn⟩ := hrow
    rcases ho.2 with ⟨rfl, _⟩ | ⟨g, cap, cur, rfl, hg, hh, h1, h2, h3, h4⟩
    · exact absurd rfl hn
    · refine ⟨g, cap, cur, lab, rfl, hh, h1, h2, h3, hfp g rfl, hsz, hpos, fun i hi => ?_⟩
      have := h i hi
      have hi' : i < xs.length * P.cellsOf e := by rw [← flatten_len hsz]; exact hi
      have : cs.getD i Go.undef = cur.getD i Go.undef := by
        rw [← h4]
        simp only [List.getD_eq_getElem?_getD, Array.getD_eq_getD_getElem?, List.getElem?_take_of_lt hi', Array.getElem?_toList]
      rw [← this]; assumption

theorem R.own_mk {P : Program} {w : World} {fp : Nat → Prop} {e : Nat} {xs : List PV} {g cap : Nat} {cur : Array Value} (lab : Nat → Nat) (hh : w.heap[g]? = some (.cells cur e (0, 0))) (h1 : xs.length ≤ cap) (h2 : cap ≤ maxLen) (h3 : cur.size = cap * P.cellsOf e)
    (hfp : fp g) (hsz : ∀ x ∈ xs, x.cells.length = P.cellsOf e) (hpos : 0 < P.cellsOf e) (h : ∀ i, i < (flatten xs).length → R P w .own (part .own fp lab (some g) i) ((flatten xs).getD i .undef) (cur.getD i Go.undef)) :
    R P w .own fp (.sl e xs) (.slice (some ⟨g, 0, none⟩) xs.length cap) := by
  have hle : xs.length * P.cellsOf e ≤ cur.size := by rw [h3]; exact Nat.mul_le_mul_right _ h1
  refine .row lab (cur.toList.take (xs.length * P.cellsOf e)) hsz hpos ⟨⟨by simp; omega, .inr ⟨g, cap, cur, rfl, Nat.zero_le _, hh, h1, h2, h3, rfl⟩⟩, by simp [Value.ownBlock]⟩ (fun k hk => by simp [Value.ownBlock] at hk; subst hk; exact hfp) fun i hi => ?_
  have hi' : i < xs.length * P.cellsOf e := by rw [← flatten_len hsz]; exact hi
  have : (cur.toList.take (xs.length * P.cellsOf e)).getD i Go.undef = cur.getD i Go.undef := by
    simp only [List.getD_eq_getElem?_getD, Array.getD_eq_getD_getElem?, List.getElem?_take_of_lt hi', Array.getElem?_toList]
  rw [this]; exact h i hi

theorem flatten_set {xs : List PV} {n i : Nat} {x' : PV} (h : ∀ x ∈ xs, x.cells.length = n) (hx : x'.cells.length = n) (hi : i < xs.length) (q : Nat) :
    (flatten (xs.set i x')).getD q .undef = if i * n ≤ q ∧ q < i * n + n then x'.cells.getD (q - i * n) .undef else (flatten xs).getD q .undef := by
  induction xs generalizing i q with
  | nil => simp at hi
  | cons y ys ih =>
    have hy := h y (by simp)
    cases i with
    | zero =>
      simp only [List.set_cons_zero, flatten, List.flatMap_cons, Nat.zero_mul, Nat.zero_le, true_and, Nat.zero_add, Nat.sub_zero, List.getD_eq_getElem?_getD]
      by_cases hq : q < n
      · rw [if_pos hq, List.getElem?_append_left (by omega)]
      · rw [if_neg hq, List.getElem?_append_right (by omega), List.getElem?_append_right (by omega), hx, hy]
    | succ i =>
      have := ih (fun z hz => h z (by simp [hz])) (by simpa using hi) (q - n)
      simp only [List.set_cons_succ, flatten, List.flatMap_cons, List.getD_eq_getElem?_getD] at this ⊢
      by_cases hq : q < n
      · rw [List.getElem?_append_left (by omega), List.getElem?_append_left (by omega), if_neg (by rw [Nat.add_mul]; omega)]
      · rw [List.getElem?_append_right (by omega), List.getElem?_append_right (by omega), hy, this]
        have e1 : (i * n ≤ q - n ∧ q - n < i * n + n) ↔ ((i + 1) * n ≤ q ∧ q < (i + 1) * n + n) := by rw [Nat.add_mul]; omega
        by_cases hc : i * n ≤ q - n ∧ q - n < i * n + n
        · rw [if_pos hc, if_pos (e1.1 hc), show q - (i + 1) * n = q - n - i * n by rw [Nat.add_mul]; omega]
        · rw [if_neg hc, if_neg (fun h => hc (e1.2 h))]

def reOk : PV → PV → Bool
  | .agg _, _ => true
  | _, .agg _ => false
  | _, _ => true
theorem reCell_len {x y : PV} {j : Nat} (hr : reOk x y = true) (hj : j + y.cells.length ≤ x.cells.length) : (reCell x j y).cells.length = x.cells.length ∧ ∀ q, (reCell x j y).cells.getD q .undef = if j ≤ q ∧ q < j + y.cells.length then y.cells.getD (q - j) .undef else x.cells.getD q .undef := by
  by_cases hx : ∃ cs, x = .agg cs
  · obtain ⟨cs, rfl⟩ := hx
    change j + y.cells.length ≤ cs.length at hj
    refine ⟨putCells_len _ _ _ hj, fun q => ?_⟩
    show (putCells cs j y.cells).getD q .undef = if j ≤ q ∧ q < j + y.cells.length then y.cells.getD (q - j) .undef else cs.getD q .undef
    rw [putCells_eq _ _ _ hj, splice_get _ _ _ _ _ hj]
  · have hxc : x.cells = [x] := by cases x <;> first | rfl | exact absurd ⟨_, rfl⟩ hx
    have hyc : y.cells = [y] := by
      cases y <;> first | rfl | (exfalso; cases x <;> first | exact absurd ⟨_, rfl⟩ hx | cases hr)
    have hre : reCell x j y = y := by cases x <;> first | rfl | exact absurd ⟨_, rfl⟩ hx
    rw [hxc, hyc] at hj
    rw [hre, hxc, hyc]
    simp only [List.length_singleton] at hj ⊢
    obtain rfl : j = 0 := by omega
    refine ⟨trivial, fun q => ?_⟩
    by_cases hq : q = 0
    · subst hq; simp
    · rw [if_neg (by omega)]
      obtain ⟨q, rfl⟩ : ∃ m, q = m + 1 := ⟨q - 1, by omega⟩
      simp


theorem reCell_at {x y : PV} {j : Nat} (hj : j < x.cells.length) (hy : y.cells = [y]) (hr : reOk x y = true) : (reCell x j y).cells.length = x.cells.length ∧ ∀ q, (reCell x j y).cells.getD q .undef = if q = j then y else x.cells.getD q .undef := by
  obtain ⟨h1, h2⟩ := reCell_len (x := x) (y := y) (j := j) hr (by rw [hy]; simp; omega)
  refine ⟨h1, fun q => ?_⟩
  rw [h2 q, hy]
  by_cases hq : q = j
  · subst hq; simp
  · rw [if_neg hq, if_neg (by simp; omega)]

theorem row_cell {w : World} {g i : Nat} {cur : Array Value} {e : Nat} (hh : w.heap[g]? = some (.cells cur e (0, 0))) : w.cell? ((⟨g, 0, none⟩ : Addr).add i) = cur[i]? := by
  unfold World.cell? Addr.add
  by_cases hi : i = 0
  · subst hi
    simp [hh]
  · simp [hi, hh]

/-- A cell taken out of a row. -/
theorem R.takeCell {P : Program} {w : World} {fp : Nat → Prop} {e : Nat} {xs : List PV} {c : Value} {q j : Nat} {x v : PV} (h : R P w .own fp (.sl e xs) c) (hx : xs[q]? = some x) (hv : x.cells[j]? = some v) :
    ∃ (own : Nat → Prop) (g cap : Nat) (u : Value), c = .slice (some ⟨g, 0, none⟩) xs.length cap ∧ fp g ∧ ¬ own g ∧ w.cell? ((⟨g, 0, none⟩ : Addr).add (q * P.cellsOf e + j)) = some u ∧ (∀ k, own k → fp k) ∧ R P w .own own v u ∧
      ∀ fp' : Nat → Prop, (∀ k, fp k → ¬ own k → fp' k) → R P w .own fp' (.sl e (xs.set q (reCell x j .undef))) c := by
  obtain ⟨g, cap, cur, lab, rfl, hh, h1, h2, h3, h4, hsz, hpos, hel⟩ := h.own_inv
  have hj : j < x.cells.length := (List.getElem?_eq_some_iff.1 hv).1
  have hq : q < xs.length := (List.getElem?_eq_some_iff.1 hx).1
  have hxl := hsz x (List.mem_of_getElem? hx)
  have hlen := flatten_len hsz
  have hmul : (q + 1) * P.cellsOf e ≤ xs.length * P.cellsOf e := Nat.mul_le_mul_right _ hq
  have hmul2 : xs.length * P.cellsOf e ≤ cap * P.cellsOf e := Nat.mul_le_mul_right _ h1
  rw [Nat.add_mul] at hmul
  have hp : q * P.cellsOf e + j < (flatten xs).length := by rw [hlen]; omega
  have hpc : q * P.cellsOf e + j < cur.size := by omega
  obtain ⟨c1, c2⟩ := reCell_at (y := .undef) hj rfl (by cases x <;> rfl)
  refine ⟨part .own fp lab (some g) (q * P.cellsOf e + j), g, cap, cur.getD (q * P.cellsOf e + j) undef, rfl, h4, fun hg => hg.2.1 rfl, ?_, fun k hk => hk.1, ?_, fun fp' hfp' => ?_⟩
  · rw [row_cell hh, Array.getElem?_eq_getElem hpc]; simp [Array.getD, hpc]
  · have := hel _ hp
    rw [flatten_get hsz hx (by omega), List.getD_eq_getElem?_getD, hv] at this
    exact this
  · have hsz' : ∀ y ∈ xs.set q (reCell x j .undef), y.cells.length = P.cellsOf e := fun y hy => by
      rcases List.mem_or_eq_of_mem_set hy with h | rfl
      · exact hsz y h
      · rw [c1, hxl]
    have hl' : (xs.set q (reCell x j .undef)).length = xs.length := by simp
    have := R.own_mk (fp := fp') (xs := xs.set q (reCell x j .undef)) lab hh (by rw [hl']; exact h1) h2 h3 (hfp' g h4 fun hg => hg.2.1 rfl) hsz' hpos (fun i hi => by
      rw [flatten_set hsz (by rw [c1, hxl]) hq, c2]
      rw [flatten_len hsz', hl', ← hlen] at hi
      have hi0 := hel i hi
      by_cases hin : q * P.cellsOf e ≤ i ∧ i < q * P.cellsOf e + P.cellsOf e
      · rw [if_pos hin]
        by_cases hij : i - q * P.cellsOf e = j
        · rw [if_pos hij]; exact .unk
        · rw [if_neg hij]
          have e1 := flatten_get hsz hx (j := i - q * P.cellsOf e) (by omega)
          rw [show q * P.cellsOf e + (i - q * P.cellsOf e) = i by omega] at e1
          rw [← e1]
          exact hi0.mono fun k hk => ⟨hfp' k hk.1 fun ho => (by have := ho.2.2; have := hk.2.2; omega), hk.2.1, hk.2.2⟩
      · rw [if_neg hin]
        exact hi0.mono fun k hk => ⟨hfp' k hk.1 fun ho => (by have := ho.2.2; have := hk.2.2; omega), hk.2.1, hk.2.2⟩)
    rw [hl'] at this
    exact this

/-- A cell put back into its place. -/
theorem R.putCell {P : Program} {w : World} {fp own : Nat → Prop} {e : Nat} {xs : List PV} {c u : Value} {q j : Nat} {x v : PV} (h : R P w .own fp (.sl e (xs.set q (reCell x j .undef))) c) (hx : xs[q]? = some x) (hj : j < x.cells.length)
    (hcell : ∀ g n cap, c = .slice (some ⟨g, 0, none⟩) n cap → w.cell? ((⟨g, 0, none⟩ : Addr).add (q * P.cellsOf e + j)) = some u) (hu : R P w .own own v u) (hv : v.cells = [v]) (hre : reOk x v = true) (hdis : ∀ k, fp k → ¬ own k) :
    R P w .own (fun k => fp k ∨ own k) (.sl e (xs.set q (reCell x j v))) c := by
  obtain ⟨g, cap, cur, lab, rfl, hh, h1, h2, h3, h4, hsz, hpos, hel⟩ := h.own_inv
  have hq : q < xs.length := (List.getElem?_eq_some_iff.1 hx).1
  obtain ⟨c1, c2⟩ := reCell_at (y := .undef) hj rfl (by cases x <;> rfl)
  obtain ⟨d1, d2⟩ := reCell_at (y := v) hj hv hre
  have hl0 : (xs.set q (reCell x j .undef)).length = xs.length := by simp
  have hl1 : (xs.set q (reCell x j v)).length = xs.length := by simp
  have hu0 : (xs.set q (reCell x j .undef))[q]? = some (reCell x j .undef) := by rw [List.getElem?_set_self hq]
  have hxl : x.cells.length = P.cellsOf e := by rw [← c1]; exact hsz _ (List.mem_of_getElem? hu0)
  have hset : xs.set q (reCell x j v) = (xs.set q (reCell x j .undef)).set q (reCell x j v) := by rw [List.set_set]
  have hsz' : ∀ y ∈ xs.set q (reCell x j v), y.cells.length = P.cellsOf e := fun y hy => by
    rw [hset] at hy
    rcases List.mem_or_eq_of_mem_set hy with h | rfl
    · exact hsz y h
    · rw [d1, hxl]
  have hlen := flatten_len hsz
  have := R.own_mk (fp := fun k => fp k ∨ own k) (xs := xs.set q (reCell x j v)) (fun k => open Classical in if own k then q * P.cellsOf e + j else lab k) hh (by rw [hl1]; rw [hl0] at h1; exact h1) h2 h3 (.inl h4) hsz' hpos (fun i hi => by
    rw [flatten_len hsz', hl1] at hi
    have hi0 := hel i (by rw [hlen, hl0]; exact hi)
    have key : (flatten (xs.set q (reCell x j v))).getD i .undef = if i = q * P.cellsOf e + j then v else (flatten (xs.set q (reCell x j .undef))).getD i .undef := by
      rw [hset, flatten_set hsz (by rw [d1, hxl]) (by rw [hl0]; exact hq), d2]
      by_cases hin : q * P.cellsOf e ≤ i ∧ i < q * P.cellsOf e + P.cellsOf e
      · rw [if_pos hin]
        by_cases hij : i - q * P.cellsOf e = j
        · rw [if_pos hij, if_pos (by omega)]
        · rw [if_neg hij, if_neg (by omega)]
          have e1 := flatten_get hsz hu0 (j := i - q * P.cellsOf e) (by omega)
          rw [show q * P.cellsOf e + (i - q * P.cellsOf e) = i by omega] at e1
          rw [e1, c2, if_neg hij]
      · rw [if_neg hin, if_neg (by omega)]
    rw [key]
    by_cases hij : i = q * P.cellsOf e + j
    · rw [if_pos hij]
      have hce := hcell g _ cap rfl
      rw [row_cell hh] at hce
      have : cur.getD i undef = u := by rw [hij, Array.getD_eq_getD_getElem?, hce]; rfl
      rw [this]
      exact hu.mono fun k hk => ⟨.inr hk, fun hkg => (by injection hkg with hkg; subst hkg; exact hdis k h4 hk), by simp only []; rw [if_pos hk]; exact hij.symm⟩
    · rw [if_neg hij]
      exact hi0.mono fun k hk => ⟨.inl hk.1, hk.2.1, by simp only []; rw [if_neg (hdis k hk.1)]; exact hk.2.2⟩)
  rw [hl1] at this
  rw [hl0]
  exact this

end Go.Den
set_option autoImplicit false
namespace Go.Den

theorem CellOk.step {X : Cx} {s s1 : S} {r j : Nat} {v : PV} {c : Value} {ck : CK} (h : CellOk X s r j v c ck) (hl : ∀ k, (s.L k = .b r j ∨ s.L k = .sh ∨ s.L k = .nw) → s1.L k = s.L k ∧ s1.w.heap[k]? = s.w.heap[k]?)
    (hn : s.H.length ≤ s1.H.length) (hbm : ∀ r, r < s.H.length → s1.bm r = s.bm r) : CellOk X s1 r j v c ck := by
  cases ck with
  | own => exact R.step h fun k hk => hl k (.inl hk)
  | sh => exact R.step h fun k hk => hl k (.inr (.inl hk))
  | fz => exact R.step h fun k hk => hl k (.inr (.inr hk))
  | fn => exact h.imp id fun h => h.step hn hbm

/-- A variable in memory that is not written. -/
theorem BoxOk.step {X : Cx} {s s1 : S} {r : Nat} {b : CK × List PV} (h : BoxOk X s r b) (hk : s1.L (s.bm r) = s.L (s.bm r) ∧ s1.w.heap[s.bm r]? = s.w.heap[s.bm r]?)
    (hl : ∀ k, ((∃ j, s.L k = .b r j) ∨ s.L k = .sh ∨ s.L k = .nw) → s1.L k = s.L k ∧ s1.w.heap[k]? = s.w.heap[k]?)
    (hr : r < s.H.length) (hn : s.H.length ≤ s1.H.length) (hbm : ∀ r, r < s.H.length → s1.bm r = s.bm r) : BoxOk X s1 r b := by
  obtain ⟨vals, e, h1, h2, h3, h4⟩ := h
  refine ⟨vals, e, by rw [hbm r hr, hk.2]; exact h1, by rw [hbm r hr, hk.1]; exact h2, h3, fun j hj => (h4 j hj).step (fun k hk => hl k (hk.imp (fun h => ⟨j, h⟩) id)) hn hbm⟩

theorem H_lt {H : Boxes} {r : Nat} {b : CK × List PV} (h : H[r]? = some b) : r < H.length := (List.getElem?_eq_some_iff.1 h).1

/-! ### A value taken in hand -/
inductive Src where
  | none | slot (x : Nat) | box (u n : Nat) | elem (t u : Nat)
  deriving DecidableEq, Inhabited, Repr
def flagOf : G → Option Bool
  | .ptr _ m => some m
  | .pm _ => some true
  | _ => none
def apart (Γ : List G) (u v : Nat) : Bool := match flagOf (Γ.getD u .dead), flagOf (Γ.getD v .dead) with
  | some a, some b => a != b
  | _, _ => false
/-- A variable in memory is emptied. -/
def touchB (u : Nat) (Γ : List G) : List G := Γ.map fun g => match g with
  | .brd => .dead
  | .bal v n => if apart Γ u v then .bal v n else .dead
  | g => g
def eat (m : TK) (Γ : List G) (o : Operand) : Option (List G × Src) :=
  match kdO Γ o, m with
  | .fl, _ => some (Γ, .none)
  | .own, .own | .own, .fz | .mo _, .own | .mo _, .fz => some (touchG (some (slotO o)) false Γ, .slot (slotO o))
  | .eal t u, .own => match Γ.getD t .dead with
    | .own => some ((touchG (some t) false Γ).set t (.hole u none), .elem t u)
    | .mo m => some ((touchG (some t) false Γ).set t (.hole u (some m)), .elem t u)
    | _ => none
  | .al x, .own | .al x, .fz => some (touchG (some x) false Γ, .slot x)
  | .bal u n, .own | .bal u n, .fz => some (touchB u Γ, .box u n)
  | .fz, .fz => some (Γ, .none)
  | .sh, .sh => some (Γ, .none)
  | _, _ => none
def undefs (cs : List PV) (j n : Nat) : List PV := cs.mapIdx fun i v => if j ≤ i ∧ i < j + n then .undef else v
def unbox (H : Boxes) (v : PV) (n : Nat) : Boxes :=
  match v with
  | .ref r j => match H[r]? with
    | some b => H.set r (b.1, undefs b.2 j (max n 1))
    | none => H
  | _ => H
theorem unbox_ref (H : Boxes) (r j n : Nat) : unbox H (.ref r j) n = H.modify r fun b => (b.1, undefs b.2 j (max n 1)) := by
  apply List.ext_getElem?
  intro i
  simp only [unbox]
  cases h : H[r]? with
  | none =>
    rw [List.getElem?_modify]
    by_cases hr : r = i
    · subst hr; simp [h]
    · simp [hr]
  | some b =>
    rw [List.getElem?_modify, List.getElem?_set]
    by_cases hr : r = i
    · subst hr
      have hb := (List.getElem?_eq_some_iff.1 h)
      simp [hb.1, hb.2]
    · simp [hr]
def eatH (σ : List PV) (H : Boxes) : Src → Boxes
  | .box u n => unbox H (σ.getD u .undef) n
  | _ => H
def tgt (m : TK) (i : Nat) : Lab := match m with | .own => .res i | _ => .nw

theorem eatH_get {σ : List PV} {H : Boxes} {src : Src} {r : Nat} {b : CK × List PV} (h : H[r]? = some b) : ∃ b', (eatH σ H src)[r]? = some b' ∧ b'.1 = b.1 ∧ b'.2.length = b.2.length := by
  cases src with
  | none => exact ⟨b, h, rfl, rfl⟩
  | slot x => exact ⟨b, h, rfl, rfl⟩
  | elem x u => exact ⟨b, h, rfl, rfl⟩
  | box u n =>
    simp only [eatH]
    cases hv : σ.getD u .undef with
    | ref r0 j =>
      rw [unbox_ref, List.getElem?_modify, h]
      by_cases hr : r0 = r <;> simp [hr, undefs]
    | _ => exact ⟨b, h, rfl, rfl⟩
theorem eatH_len {σ : List PV} {H : Boxes} {src : Src} : (eatH σ H src).length = H.length := by
  cases src with
  | none => rfl
  | slot x => rfl
  | elem x u => rfl
  | box u n =>
    simp only [eatH]
    cases hv : σ.getD u .undef with
    | ref r0 j => rw [unbox_ref]; simp
    | _ => rfl

theorem keeps_view {X : Cx} {r : Nat} {ck : CK} (h : X.view r ck = .own) : ¬ (r < X.lim) := by
  unfold Cx.view at h
  intro h1
  split at h
  · cases h
  · rename_i hn
    subst h
    exact hn ⟨h1, by simp⟩

theorem R.relabel {P : Program} {s s1 : S} {m : M} {p q : Lab → Prop} {v : PV} {c : Value} (h : R P s.w m (s.fp p) v c) (hk : ∀ k, p (s.L k) → q (s1.L k) ∧ s1.w.heap[k]? = s.w.heap[k]?) : R P s1.w m (s1.fp q) v c :=
  (h.frame fun k hp => (hk k hp).2).mono fun k hp => (hk k hp).1

theorem Sim.apart_false {X : Cx} {Γ : List G} {s : S} (h : Sim X Γ s) {u v r j j' : Nat} (hu : s.v u = .ref r j) (hvj : s.v v = .ref r j') : apart Γ u v = false := by
  cases hap : apart Γ u v with
  | false => rfl
  | true =>
    exfalso
    have fl : ∀ y jy m, s.v y = .ref r jy → flagOf (Γ.getD y .dead) = some m → (m = true → X.n0 ≤ r) ∧ (m = false → r < X.n0) := by
      intro y jy m hy hm
      have hreal := h.opnd' (o := .tmp y) rfl (by intro hx; change s.v y = _ at hx; rw [hy] at hx; cases hx)
      change Real X s y (s.v y) (s.c y) (Γ.getD y .dead) at hreal
      generalize Γ.getD y .dead = gy at hm hreal
      cases gy <;> simp only [flagOf, Option.some.injEq, reduceCtorEq] at hm
      case ptr ck m' =>
        subst hm
        obtain ⟨r', _, _, q1, _, _, _, q5, q6⟩ := hreal
        rw [hy] at q1; injection q1 with q1 _; subst q1
        exact ⟨q5, q6⟩
      case pm m' =>
        subst hm
        obtain ⟨r', _, _, _, q1, _, _, _, q5, _⟩ := hreal
        rw [hy] at q1; injection q1 with q1 _; subst q1
        exact ⟨fun _ => q5, fun hx => by cases hx⟩
    unfold apart at hap
    split at hap
    · rename_i a b ha hb
      have f1 := fl u j a hu ha
      have f2 := fl v j' b hvj hb
      cases a <;> cases b <;> simp at hap
      · have := f1.2 rfl; have := f2.1 rfl; omega
      · have := f1.1 rfl; have := f2.2 rfl; omega
    · cases hap
theorem touchB_get {u i : Nat} {Γ : List G} {g : G} (hg : (touchB u Γ)[i]? = some g) (hdead : g ≠ .dead) : Γ[i]? = some g ∧ g ≠ .brd ∧ ∀ v n, g = .bal v n → apart Γ u v = true := by
  simp only [touchB, List.getElem?_map, Option.map_eq_some_iff] at hg
  obtain ⟨g0, hg0, hg1⟩ := hg
  have same : g0 = g ∧ g ≠ .brd ∧ (∀ v n', g = .bal v n' → apart Γ u v = true) := by
    split at hg1
    · exact absurd hg1.symm hdead
    · rename_i v n'
      split at hg1
      · rename_i hap
        subst hg1
        exact ⟨rfl, by simp, fun v' n'' hx => by injection hx with hx _; subst hx; exact hap⟩
      · exact absurd hg1.symm hdead
    · rename_i hb1 hb2
      subst hg1
      exact ⟨rfl, hb1, fun v n' hx => absurd hx (hb2 v n')⟩
  obtain ⟨rfl, h1, h2⟩ := same
  exact ⟨hg0, h1, h2⟩

theorem Sim.eat {X : Cx} {Γ Γ' : List G} {s : S} {m : TK} {o : Operand} {src : Src} (h : Sim X Γ s) (he : eat m Γ o = some (Γ', src)) (hv : valO s.σ o ≠ .undef) (i : Nat) :
    ∃ L', Sim X Γ' { s with L := L', H := eatH s.σ s.H src } ∧ TkOk X.P { s with L := L', H := eatH s.σ s.H src } (.res i) (valO s.σ o) (s.a.eval o) m ∧ Fr X s.L s.w L' s.w ∧
      ∀ k j, s.L k = .res j → L' k = .res j := by
  -- what is known of the operand
  have slotCase : ∀ x, R X.P s.w .own (s.fp (· = .s x)) (valO s.σ o) (s.a.eval o) → (m = .own ∨ m = .fz) → Γ' = touchG (some x) false Γ → src = .slot x →
      ∃ L', Sim X Γ' { s with L := L', H := eatH s.σ s.H src } ∧ TkOk X.P { s with L := L', H := eatH s.σ s.H src } (.res i) (valO s.σ o) (s.a.eval o) m ∧ Fr X s.L s.w L' s.w ∧ ∀ k j, s.L k = .res j → L' k = .res j := by
    rintro x hr hm rfl rfl
    let L' : Nat → Lab := fun k => if s.L k = .s x then tgt m i else s.L k
    have hL : ∀ k, s.L k ≠ .s x → L' k = s.L k := fun k hk => if_neg hk
    refine ⟨L', ?_, ?_, ?_, fun k j hk => (hL k (by rw [hk]; simp)).trans hk⟩
    · refine h.ghost (t := some x) (bx := false) ⟨rfl, rfl, fun k hk _ => ⟨hL k (hk.1 x rfl), rfl⟩, fun r b hb => ⟨b, hb, rfl, rfl, fun _ _ => ⟨rfl, rfl⟩⟩⟩ ?_ ?_
      · intro r b hb
        have hbo := h.box r b hb
        refine BoxOk.step hbo ⟨hL _ ?_, rfl⟩ (fun k hk => ⟨hL k ?_, rfl⟩) (H_lt hb) (Nat.le_refl _) (fun _ _ => rfl)
        · obtain ⟨_, _, _, h2, _⟩ := hbo; rw [h2]; simp
        · rcases hk with ⟨j, hk⟩ | hk | hk <;> rw [hk] <;> simp
      · intro k hk
        have := h.top k hk
        rw [← this]; exact hL k (by rw [this]; simp)
    · rcases hm with rfl | rfl
      · exact R.relabel (s1 := { s with L := L', H := _ }) hr fun k hk => ⟨show L' k = .res i from if_pos hk, rfl⟩
      · exact R.full (R.relabel (s1 := { s with L := L', H := _ }) hr fun k hk => ⟨show L' k = .nw from if_pos hk, rfl⟩) (by simp)
    · exact ⟨rfl, rfl, rfl, Nat.le_refl _, fun k _ hk => ⟨rfl, hL k (by intro hx; rw [hx] at hk; exact hk)⟩⟩
  have same : ∀ tk : TK, TkOk X.P s (.res i) (valO s.σ o) (s.a.eval o) tk → tk = m → Γ' = Γ → src = .none →
      ∃ L', Sim X Γ' { s with L := L', H := eatH s.σ s.H src } ∧ TkOk X.P { s with L := L', H := eatH s.σ s.H src } (.res i) (valO s.σ o) (s.a.eval o) m ∧ Fr X s.L s.w L' s.w ∧ ∀ k j, s.L k = .res j → L' k = .res j := by
    rintro tk ht rfl rfl rfl
    exact ⟨s.L, h, ht, Fr.refl _ _ _, fun _ _ h => h⟩
  have boxCase : ∀ u n, kdO Γ o = .bal u n → (m = .own ∨ m = .fz) → Γ' = touchB u Γ → src = .box u n →
      ∃ L', Sim X Γ' { s with L := L', H := eatH s.σ s.H src } ∧ TkOk X.P { s with L := L', H := eatH s.σ s.H src } (.res i) (valO s.σ o) (s.a.eval o) m ∧ Fr X s.L s.w L' s.w ∧ ∀ k j, s.L k = .res j → L' k = .res j := by
    rintro u n hkd hm rfl rfl
    obtain ⟨r, j, hu, ⟨b, hb, hview⟩, hr⟩ := bal_data h (h.opnd' hkd hv)
    have hH : eatH s.σ s.H (.box u n) = s.H.modify r fun b => (b.1, undefs b.2 j (max n 1)) := by
      simp only [eatH]; rw [show s.σ.getD u .undef = .ref r j from hu, unbox_ref]
    let p : Lab → Prop := fun l => ∃ j', l = .b r j' ∧ j ≤ j' ∧ j' < j + max n 1
    let L' : Nat → Lab := fun k => open Classical in if p (s.L k) then tgt m i else s.L k
    have hL : ∀ k, ¬ p (s.L k) → L' k = s.L k := fun k hk => if_neg hk
    refine ⟨L', ?_, ?_, ?_, fun k j hk => (hL k (by rw [hk]; rintro ⟨_, h, _⟩; cases h)).trans hk⟩
    · have hHo : ∀ r' b', s.H[r']? = some b' → r' ≠ r → (eatH s.σ s.H (.box u n))[r']? = some b' := fun r' b' hb' hne => by
        rw [hH, List.getElem?_modify, hb']; simp [Ne.symm hne]
      have hflag : ∀ v j', s.v v = .ref r j' → apart Γ u v = false := fun v j' hvj => h.apart_false hu hvj
      refine ⟨by simp [touchB, h.lenG], h.lenA, h.defs, fun i' g hg => ?_, ?_, ?_, h.n0.step fun r' b' hb' => ?_⟩
      · by_cases hdead : g = .dead
        · subst hdead; exact .inr trivial
        obtain ⟨hg0, hnb, hap⟩ := touchB_get hg hdead
        refine (h.slot i' g hg0).out ⟨rfl, rfl, fun k hk => ⟨hL k ?_, rfl⟩, fun _ _ => ⟨rfl, rfl⟩, fun _ r' b' hb' => ?_, fun _ _ _ _ _ => rfl⟩
        · rintro ⟨j', hk', _⟩
          rw [hk'] at hk
          cases g <;> simp [G.uses, Lab.isB] at hk
          exact hnb rfl
        · obtain ⟨b2, h1, h2, _⟩ := eatH_get (σ := s.σ) (src := .box u n) hb'
          refine ⟨b2, h1, h2, rfl, ?_⟩
          rintro ⟨v, n', j', rfl, hvj⟩ _
          have hne : r' ≠ r := by
            rintro rfl
            have := hflag v j' hvj
            rw [hap v n' rfl] at this
            cases this
          have h3 := hHo r' b' hb' hne
          change (eatH s.σ s.H (.box u n))[r']? = some b2 at h1
          rw [h1] at h3
          injection h3 with h3
          exact ⟨h3, rfl⟩
      rotate_left 2
      · obtain ⟨b2, h1, h2, _⟩ := eatH_get (σ := s.σ) (src := .box u n) hb'
        exact ⟨b2, h1, h2, rfl⟩
      · intro r' b' hb'
        have hlen : (eatH s.σ s.H (.box u n)).length = s.H.length := eatH_len
        change (eatH s.σ s.H (.box u n))[r']? = some b' at hb'
        rw [hH, List.getElem?_modify] at hb'
        obtain ⟨b0, hb0, rfl⟩ := Option.map_eq_some_iff.1 hb'
        obtain ⟨vals, e, g1, g2, g3, g4⟩ := h.box r' b0 hb0
        have hbk : L' (s.bm r') = s.L (s.bm r') := hL _ (by rw [g2]; rintro ⟨_, h, _⟩; cases h)
        refine ⟨vals, e, g1, hbk.trans g2, ?_, fun q hq => ?_⟩
        · split <;> simpa [undefs] using g3
        · by_cases hrr : r = r'
          · subst hrr
            rw [hb] at hb0; injection hb0 with hb0; subst hb0
            simp only [if_true] at hq ⊢
            have hq' : q < b.2.length := by simpa [undefs] using hq
            rw [hview]
            by_cases hin : j ≤ q ∧ q < j + max n 1
            · have : (undefs b.2 j (max n 1)).getD q .undef = .undef := by simp [undefs, hq', hin]
              rw [this]; exact .unk
            · have : (undefs b.2 j (max n 1)).getD q .undef = b.2.getD q .undef := by simp [undefs, hq', hin]
              rw [this]
              have hc := g4 q hq'
              rw [hview] at hc
              exact R.step (s' := { s with L := L', H := _ }) hc fun k hk => ⟨hL k (by rw [show s.L k = .b r q from hk]; rintro ⟨_, h, h1, h2⟩; injection h with _ h; subst h; exact hin ⟨h1, h2⟩), rfl⟩
          · simp only [if_neg hrr] at hq ⊢
            refine (g4 q hq).step (fun k hk => ⟨hL k ?_, rfl⟩) (by simp [hlen]) (fun _ _ => rfl)
            rcases hk with hk | hk | hk <;> rw [hk] <;> rintro ⟨_, h, _⟩ <;> cases h
            exact hrr rfl
      · intro k hk
        have := h.top k hk
        rw [← this]; exact hL k (by rw [this]; rintro ⟨_, h, _⟩; cases h)
    · rcases hm with rfl | rfl
      · exact R.relabel (s1 := { s with L := L', H := _ }) hr fun k hk => ⟨show L' k = .res i from if_pos hk, rfl⟩
      · exact R.full (R.relabel (s1 := { s with L := L', H := _ }) hr fun k hk => ⟨show L' k = .nw from if_pos hk, rfl⟩) (by simp)
    · refine ⟨rfl, rfl, rfl, Nat.le_refl _, fun k _ hk => ⟨rfl, hL k ?_⟩⟩
      rintro ⟨j', hx, _⟩
      rw [hx] at hk
      exact keeps_view hview hk
  have elemCase : ∀ y u (mo : Option Nat), kdO Γ o = .eal y u → (Γ.getD y .dead = match mo with | none => .own | some m' => .mo m') → m = .own → Γ' = (touchG (some y) false Γ).set y (.hole u mo) → src = .elem y u →
      ∃ L', Sim X Γ' { s with L := L', H := eatH s.σ s.H src } ∧ TkOk X.P { s with L := L', H := eatH s.σ s.H src } (.res i) (valO s.σ o) (s.a.eval o) m ∧ Fr X s.L s.w L' s.w ∧ ∀ k j, s.L k = .res j → L' k = .res j := by
    rintro y u mo hkd hy rfl rfl rfl
    have hreal := h.opnd' hkd hv
    obtain ⟨q, j, e, xs, x, ad, cap, h1, h2, h3, h4, h5, h6, h7, h8⟩ := hreal
    have hyl : y < Γ.length := by
      rcases Nat.lt_or_ge y Γ.length with hlt | hge
      · exact hlt
      · rw [List.getD_eq_getElem?_getD, List.getElem?_eq_none hge] at hy
        cases mo <;> cases hy
    have hreal2 := h.opnd' (o := .tmp y) rfl (by change s.v y ≠ _; rw [h2]; simp)
    change Real X s y (s.v y) (s.c y) (Γ.getD y .dead) at hreal2
    have hown : R X.P s.w .own (s.fp (· = .s y)) (.sl e xs) (s.c y) ∧ ∀ m', mo = some m' → s.c y = X.hd m' := by
      rw [hy, h2] at hreal2
      cases mo with
      | none => exact ⟨hreal2, fun m' hm => by cases hm⟩
      | some m' => exact ⟨hreal2.1, fun m'' hm => by injection hm with hm; subst hm; exact hreal2.2⟩
    obtain ⟨own, g, cap', c', g1, g2, g3, g4, g5, g6, g7⟩ := hown.1.takeCell h3 h4
    rw [h5] at g1
    injection g1 with g1 _ _
    injection g1 with g1
    subst g1
    have hce : c' = s.a.eval o := by
      rw [h6] at g4; injection g4 with g4; exact g4.symm
    subst hce
    let L' : Nat → Lab := fun k => open Classical in if own k then .res i else s.L k
    have hL : ∀ k, s.L k ≠ .s y → L' k = s.L k := fun k hk => if_neg fun ho => hk (g5 k ho)
    refine ⟨L', ?_, ?_, ⟨rfl, rfl, rfl, Nat.le_refl _, fun k _ hk => ⟨rfl, hL k (by intro hx; rw [hx] at hk; exact hk)⟩⟩, fun k j hk => (hL k (by rw [hk]; simp)).trans hk⟩
    · have hs1 : Sim X (touchG (some y) false Γ) { s with L := L' } := by
        refine h.ghost (t := some y) (bx := false) ⟨rfl, rfl, fun k hk _ => ⟨hL k (hk.1 y rfl), rfl⟩, fun r b hb => ⟨b, hb, rfl, rfl, fun _ _ => ⟨rfl, rfl⟩⟩⟩ ?_ ?_
        · intro r b hb
          have hbo := h.box r b hb
          refine BoxOk.step hbo ⟨hL _ ?_, rfl⟩ (fun k hk => ⟨hL k ?_, rfl⟩) (H_lt hb) (Nat.le_refl _) (fun _ _ => rfl)
          · obtain ⟨_, _, _, h2, _⟩ := hbo; rw [h2]; simp
          · rcases hk with ⟨j, hk⟩ | hk | hk <;> rw [hk] <;> simp
        · intro k hk
          have := h.top k hk
          rw [← this]; exact hL k (by rw [this]; simp)
      refine ⟨by rw [List.length_set]; exact hs1.lenG, hs1.lenA, hs1.defs, fun i' g' hg' => ?_, hs1.box, hs1.top, hs1.n0⟩
      by_cases hiy : i' = y
      · subst hiy
        rw [List.getElem?_set_self (by rw [touchG_len]; exact hyl)] at hg'
        injection hg' with hg'
        subst hg'
        refine .inr ⟨q, j, e, xs, x, h1, h2, h3, (List.getElem?_eq_some_iff.1 h4).1, ?_, hown.2⟩
        exact g7 _ fun k hk ho => show L' k = .s i' from (if_neg ho).trans hk
      · rw [List.getElem?_set_ne (Ne.symm hiy)] at hg'
        exact hs1.slot i' g' hg'
    · exact (g6.mono fun k hk => show L' k = .res i from if_pos hk)
  unfold Den.eat at he
  have hk := h.opnd' rfl hv
  split at he
  · rename_i m' _ tk hkd
    simp only [Option.some.injEq, Prod.mk.injEq] at he; obtain ⟨e1, e2⟩ := he; rw [hkd] at hk
    refine same _ ?_ rfl e1.symm e2.symm
    cases m'
    · exact hk
    · exact R.nowhere hk fun _ h => h
    · exact R.nowhere hk fun _ h => h
    · exact R.nowhere hk fun _ h => h
    · trivial
  · rename_i hkd; simp only [Option.some.injEq, Prod.mk.injEq] at he; obtain ⟨e1, e2⟩ := he; rw [hkd] at hk; exact slotCase _ hk (.inl rfl) e1.symm e2.symm
  · rename_i hkd; simp only [Option.some.injEq, Prod.mk.injEq] at he; obtain ⟨e1, e2⟩ := he; rw [hkd] at hk; exact slotCase _ hk (.inr rfl) e1.symm e2.symm
  · rename_i hkd; simp only [Option.some.injEq, Prod.mk.injEq] at he; obtain ⟨e1, e2⟩ := he; rw [hkd] at hk; exact slotCase _ hk.1 (.inl rfl) e1.symm e2.symm
  · rename_i hkd; simp only [Option.some.injEq, Prod.mk.injEq] at he; obtain ⟨e1, e2⟩ := he; rw [hkd] at hk; exact slotCase _ hk.1 (.inr rfl) e1.symm e2.symm
  · rename_i y u hkd
    split at he
    · rename_i hy; simp only [Option.some.injEq, Prod.mk.injEq] at he; obtain ⟨e1, e2⟩ := he; exact elemCase y u none hkd hy rfl e1.symm e2.symm
    · rename_i m' hy; simp only [Option.some.injEq, Prod.mk.injEq] at he; obtain ⟨e1, e2⟩ := he; exact elemCase y u (some m') hkd hy rfl e1.symm e2.symm
    · cases he
  · rename_i hkd; simp only [Option.some.injEq, Prod.mk.injEq] at he; obtain ⟨e1, e2⟩ := he; rw [hkd] at hk; exact slotCase _ hk.1 (.inl rfl) e1.symm e2.symm
  · rename_i hkd; simp only [Option.some.injEq, Prod.mk.injEq] at he; obtain ⟨e1, e2⟩ := he; rw [hkd] at hk; exact slotCase _ hk.1 (.inr rfl) e1.symm e2.symm
  · rename_i hkd; simp only [Option.some.injEq, Prod.mk.injEq] at he; obtain ⟨e1, e2⟩ := he; exact boxCase _ _ hkd (.inl rfl) e1.symm e2.symm
  · rename_i hkd; simp only [Option.some.injEq, Prod.mk.injEq] at he; obtain ⟨e1, e2⟩ := he; exact boxCase _ _ hkd (.inr rfl) e1.symm e2.symm
  · rename_i hkd; simp only [Option.some.injEq, Prod.mk.injEq] at he; obtain ⟨e1, e2⟩ := he; rw [hkd] at hk; exact same .fz hk rfl e1.symm e2.symm
  · rename_i hkd; simp only [Option.some.injEq, Prod.mk.injEq] at he; obtain ⟨e1, e2⟩ := he; rw [hkd] at hk; exact same .sh hk rfl e1.symm e2.symm
  · cases he

end Go.Den
set_option autoImplicit false
namespace Go.Den

/-! ### Readings of plain values -/
theorem R.int_inv {P : Program} {w : World} {m : M} {fp : Nat → Prop} {k : IntKind} {n : Int} {c : Value} (h : R P w m fp (.int k n) c) : c = .int k n := by
  cases h with
  | flat h => simpa [PV.flat] using h.symm
theorem R.bool_inv {P : Program} {w : World} {m : M} {fp : Nat → Prop} {b : Bool} {c : Value} (h : R P w m fp (.bool b) c) : c = .bool b := by
  cases h with
  | flat h => simpa [PV.flat] using h.symm
theorem R.str_inv {P : Program} {w : World} {m : M} {fp : Nat → Prop} {b : ByteArray} {c : Value} (h : R P w m fp (.str b) c) : c = .string b := by
  cases h with
  | flat h => simpa [PV.flat] using h.symm
theorem R.nil_inv {P : Program} {w : World} {m : M} {fp : Nat → Prop} {c : Value} (h : R P w m fp .nil c) : c = .slice none 0 0 := by
  cases h with
  | flat h => simpa [PV.flat] using h.symm
theorem R.sl_inv {P : Program} {w : World} {m : M} {fp : Nat → Prop} {e : Nat} {xs : List PV} {c : Value} (h : R P w m fp (.sl e xs) c) : ∃ ad cap, c = .slice (some ad) xs.length cap ∧ xs.length ≤ cap ∧ cap ≤ maxLen := by
  cases h with
  | flat h => simp [PV.flat] at h
  | row lab cs hsz hpos hrow hfp h =>
    obtain ⟨ad, cap, h1, h2, h3, _⟩ := hrow.rep
    exact ⟨ad, cap, h1, h2, h3⟩
theorem R.agg_inv {P : Program} {w : World} {m : M} {fp : Nat → Prop} {xs : List PV} {c : Value} (h : R P w m fp (.agg xs) c) :
    ∃ (cs : Array Value) (lab : Nat → Nat), c = .agg cs ∧ cs.size = xs.length ∧ ∀ i, i < xs.length → R P w m (part m fp lab none i) (xs.getD i .undef) (cs.getD i undef) := by
  cases h with
  | flat h => simp [PV.flat] at h
  | agg lab hl h => exact ⟨_, lab, rfl, hl, h⟩

/-- No rows in it, by sight. -/
def PV.isFlat : PV → Bool
  | .no | .int .. | .bool _ | .str _ | .nil | .nilp | .nilf => true
  | .agg xs => xs.all fun x => match x with | .int .. | .bool _ | .str _ | .nil | .nilp | .nilf => true | _ => false
  | _ => false

theorem R.ofFlat {P : Program} {w w' : World} {m m' : M} {fp fp' : Nat → Prop} {v : PV} {c : Value} (h : R P w m fp v c) (hf : v.isFlat = true) : R P w' m' fp' v c := by
  cases h with
  | unk => exact .unk
  | flat h => exact .flat h
  | agg lab hl h =>
    refine .agg lab hl fun i hi => ?_
    simp only [PV.isFlat, List.all_eq_true] at hf
    rename_i xs cs
    have hx := hf (xs.getD i .undef) (by rw [List.getD_eq_getElem?_getD, List.getElem?_eq_getElem hi]; exact List.getElem_mem hi)
    have := h i hi
    generalize xs.getD i .undef = x at this hx
    generalize cs.getD i Go.undef = y at this
    cases this with
    | unk => exact .unk
    | flat h => exact .flat h
    | agg => simp at hx
    | row => simp at hx
  | row => simp [PV.isFlat] at hf

/-! ### Operations on plain values -/
def binV (op : BinOp) : PV → PV → Option PV
  | .int k a, .int k' b =>
    match op with
    | .shl => if b < 0 then none else some (.int k (k.wrap (a * 2 ^ min b.toNat k.bits)))
    | .shr => if b < 0 then none else some (.int k (a.fdiv (2 ^ min b.toNat k.bits)))
    | .add => if k = k' then some (.int k (k.wrap (a + b))) else none
    | .sub => if k = k' then some (.int k (k.wrap (a - b))) else none
    | .mul => if k = k' then some (.int k (k.wrap (a * b))) else none
    | .quo => if k = k' ∧ b ≠ 0 then some (.int k (k.wrap (a.tdiv b))) else none
    | .rem => if k = k' ∧ b ≠ 0 then some (.int k (a.tmod b)) else none
    | .and => if k = k' then some (.int k (k.wrap (BitVec.ofInt k.bits a &&& BitVec.ofInt k.bits b).toNat)) else none
    | .or => if k = k' then some (.int k (k.wrap (BitVec.ofInt k.bits a ||| BitVec.ofInt k.bits b).toNat)) else none
    | .xor => if k = k' then some (.int k (k.wrap (BitVec.ofInt k.bits a ^^^ BitVec.ofInt k.bits b).toNat)) else none
    | .eql => if k = k' then some (.bool (a == b)) else none
    | .neq => if k = k' then some (.bool (a != b)) else none
    | .lss => if k = k' then some (.bool (a < b)) else none
    | .leq => if k = k' then some (.bool (a ≤ b)) else none
    | .gtr => if k = k' then some (.bool (a > b)) else none
    | .geq => if k = k' then some (.bool (a ≥ b)) else none
    | _ => none
  | .str a, .str b =>
    match op with
    | .add => if a.size + b.size ≤ 9223372036854775807 then some (.str (a ++ b)) else none
    | .eql => some (.bool (a.toList == b.toList))
    | .neq => some (.bool (!(a.toList == b.toList)))
    | .lss => some (.bool (Op.bytesLess a.toList b.toList))
    | .gtr => some (.bool !(Op.bytesLess a.toList b.toList || a.toList == b.toList))
    | .geq => some (.bool !(Op.bytesLess a.toList b.toList))
    | .leq => some (.bool (Op.bytesLess a.toList b.toList || a.toList == b.toList))
    | _ => none
  | _, _ => none
def unV (op : UnOp) : PV → Option PV
  | .int k n => match op with
    | .neg => some (.int k (k.wrap (0 - n)))
    | _ => none
  | .bool b => match op with
    | .not => some (.bool !b)
    | _ => none
  | _ => none

theorem run_bin {P : Program} {w : World} {op : BinOp} {t : TypeId} {x y : Operand} {v1 v2 v : PV} {c1 c2 : Value} {m1 m2 : M} {f1 f2 : Nat → Prop} (h : binV op v1 v2 = some v)
    (h1 : R P w m1 f1 v1 c1) (h2 : R P w m2 f2 v2 c2) : ∃ c, (do eqGuard op t x y c1 c2; binOp op t c1 c2 : Sem Value).run P w = .ok c w ∧ v.flat = some c := by
  unfold binV at h
  split at h
  · rename_i k a k' b
    have e1 := h1.int_inv
    have e2 := h2.int_inv
    subst e1; subst e2
    have hg : (eqGuard op t x y (.int k a) (.int k' b)).run P w = .ok () w := by
      unfold eqGuard; cases op <;> rfl
    simp only [Sem.run_bind, hg, Result.andThen_ok]
    cases op <;> simp only [] at h <;> (try (split at h)) <;> simp only [Option.some.injEq, reduceCtorEq] at h <;> subst h <;>
      simp_all [binOp, Op.intArith, Op.intDiv, Op.intBits, Op.intCmp, Op.shift, PV.flat]
    all_goals (intro hlt; omega)
  · rename_i a b
    have e1 := h1.str_inv
    have e2 := h2.str_inv
    subst e1; subst e2
    have hg : (eqGuard op t x y (.string a) (.string b)).run P w = .ok () w := by
      unfold eqGuard; cases op <;> rfl
    simp only [Sem.run_bind, hg, Result.andThen_ok]
    cases op <;> simp only [] at h <;> (try (split at h)) <;> simp only [Option.some.injEq, reduceCtorEq] at h <;> subst h <;>
      simp [binOp, Op.stringOp, PV.flat]
    have : IntKind.i64.max = 9223372036854775807 := rfl
    omega
  · cases h

end Go.Den
set_option autoImplicit false
namespace Go.Den

abbrev KV := List PV → Boxes → Prop

/-- What must hold behind an operation. -/
def Good (X : Cx) (Γ : List G) (L0 : Nat → Lab) (w0 : World) (K : KV) (a : Act) (w : World) : Prop :=
  ∃ s : S, s.a = a ∧ s.w = w ∧ Sim X Γ s ∧ Fr X L0 w0 s.L s.w ∧ K s.σ s.H

theorem op_value {P : Program} {o : Oper} {a : Act} {w w' : World} {v : Value} {K : Act → World → Prop} {Q : Exit → Act → World → Prop} (hr : (execOp a.eval o).run P w = .ok (.value v) w') (hk : K (a.put o.dst v) w') : o.wp P a w K Q := by
  unfold Oper.wp; rw [hr]; exact hk
theorem op_skip {P : Program} {o : Oper} {a : Act} {w w' : World} {K : Act → World → Prop} {Q : Exit → Act → World → Prop} (hr : (execOp a.eval o).run P w = .ok .skip w') (hk : K (a.put o.dst undef) w') : o.wp P a w K Q := by
  unfold Oper.wp; rw [hr]; exact hk

/-- A slot written, nothing else. -/
theorem Sim.set {X : Cx} {Γ : List G} {s : S} {d : Nat} {g : G} {v : PV} {c : Value} (h : Sim X Γ s) (hd : d < Γ.length) (new : v = .undef ∨ Real X (s.put d v c) d v c g) : Sim X (setG none false d g Γ) (s.put d v c) :=
  h.put (Stay.refl none false s) hd h.box h.top new

theorem Sim.setFl {X : Cx} {Γ : List G} {s : S} {d : Nat} {v : PV} {c : Value} {m : M} {fp : Nat → Prop} (h : Sim X Γ s) (hd : d < Γ.length) (hr : R X.P s.w m fp v c) (hf : v.isFlat = true) : Sim X (setG none false d .fl Γ) (s.put d v c) :=
  h.set hd (.inr (hr.ofFlat hf))

theorem flat_isFlat {v : PV} {c : Value} (h : v.flat = some c) : v.isFlat = true := by
  cases v <;> simp [PV.flat] at h <;> rfl

theorem good_set {X : Cx} {Γ : List G} {s : S} {L0 : Nat → Lab} {w0 : World} {K : KV} {o : Oper} {Q : Exit → Act → World → Prop} {d : Nat} {g : G} {v : PV} {c : Value}
    (h : Sim X Γ s) (f : Fr X L0 w0 s.L s.w) (hd : d < Γ.length) (ho : o.dst = some d) (hr : (execOp s.a.eval o).run X.P s.w = .ok (.value c) s.w) (new : v = .undef ∨ Real X (s.put d v c) d v c g) (hk : K (s.σ.set d v) s.H) :
    o.wp X.P s.a s.w (Good X (setG none false d g Γ) L0 w0 K) Q :=
  op_value hr (by rw [ho]; exact ⟨s.put d v c, rfl, rfl, h.set hd new, f, hk⟩)

/-! ### The operations, and what is known behind them -/
inductive PK where
  | fl | rd | own | fz | ptr (ck : CK) | fn
  deriving DecidableEq, Inhabited, Repr
structure Sig where
  ps : List PK
  rs : List TK
  pure : Bool
  mu : Bool := false
  deriving DecidableEq, Inhabited, Repr


inductive COp where
  | fail
  | copy (d : Nat) (x : Operand)
  | take (d : Nat) (x : Operand) (src : Src)
  | bin (d : Nat) (op : BinOp) (x y : Operand)
  | un (d : Nat) (op : UnOp) (x : Operand)
  | conv (d : Nat) (k : IntKind) (x : Operand)
  | pick (d : Nat) (c a b : Operand)
  | beq (d : Nat) (neg : Bool) (x y : Operand)
  | len (d : Nat) (str : Bool) (x : Operand)
  | isnil (d : Nat) (neg : Bool) (x : Operand)
  | mm (d : Nat) (mx : Bool) (x y : Operand)
  | ext (d t j : Nat)
  | box (d : Nat) (ck : CK) (x : Operand) (src : Src)
  | alloc (d : Nat) (ck : CK) (zs : List PV)
  | loadB (d : Nat) (u : Operand) (n : Option Nat) (fl : Bool)
  | storeB (u x : Operand) (n : Option Nat) (src : Src)
  | fadd (d : Nat) (u : Operand) (off : Nat)
  | iadd (d t e : Nat) (i : Operand)
  | loadE (d t u : Nat) (n : Option Nat) (fl : Bool)
  | storeE (x u : Nat) (n : Option Nat) (y : Operand)
  | sli (d e : Nat) (x : Operand) (lo hi mx : Option Operand)
  | mks (d e by_ : Nat) (z : PV) (l c : Operand)
  | lit (d e n : Nat) (xs : List Operand) (srcs : List Src)
  | build (d : Nat) (zs : List PV) (ps : List (Nat × Nat × Operand)) (srcs : List Src)
  | field (d : Nat) (x : Operand) (off : Nat) (n : Option Nat) (fl : Bool)
  | app (d e by_ : Nat) (fl : Bool) (x y : Operand) (srcs : List Src)
  | call (d : Option Nat) (g : Nat) (sg : Sig) (xs : List Operand) (srcs : List Src)
  | callv (d : Option Nat) (f : Operand) (g nc : Nat) (sg : Sig) (xs : List Operand) (srcs : List Src)
  | mkfn (d g : Nat) (caps : List Operand)
  | sidx (d : Nat) (x i : Operand)
  | ssl (d : Nat) (x : Operand) (lo hi : Option Operand)
  | sstr (d : Nat) (x : Operand)
  | callm (d g : Nat) (sg : Sig) (x : Operand) (xs : List Operand) (src : Src)
  | boxm (d : Nat) (x : Operand)
  deriving Inhabited

structure Env where
  P : Program
  names : Nat → Bool
  hint : Nat → Option CK
  sig : Nat → Option Sig
  vsig : Nat → Option (Nat × Sig × Nat)

/-! #### move, assign -/
def elabCopy (asg : Bool) (E : Env) (Γ : List G) (d : Nat) (x : Operand) : Option (COp × List G) :=
  let plain (g : G) : Option (COp × List G) := some (.copy d x, setG none false d g Γ)
  let take : Option (COp × List G) := match eat .own Γ x with
    | some (Γ1, src) => some (.take d x src, setG none false d .own Γ1)
    | none => none
  match kdO Γ x with
  | .fl => plain .fl
  | .fn => plain .fn
  | .ptr ck m => plain (.ptr ck m)
  | .pm m => plain (.pm m)
  | .sh => plain .sh
  | .fz => plain .fz
  | .rn => plain .rn
  | .brd => plain .brd
  | .rd y => if y = d then none else plain (.rd y)
  | .ea t => if t = d then none else plain (.ea t)
  | .bal u n => if u = d then none else plain (.bal u n)
  | .own => if slotO x = d then none else if asg then take else plain (.al (slotO x))
  | .mo _ => if slotO x = d then none else if asg then take else plain (.al (slotO x))
  | .eal t u => if t = d ∨ u = d then none else plain (.eal t u)
  | .al y => if y = d then none else if asg && E.names d then take else plain (.al y)
  | .tup ks => match x with
    | .tmp t => if t = d then none else some (.copy d x, setG none false d (.tup ks) (Γ.set t .dead))
    | _ => none
  | _ => none

theorem Real.put {X : Cx} {s : S} {d i : Nat} {v v' : PV} {c c' : Value} {g : G} (h : Real X s i v c g) (hd : ∀ y, g.deps y → y ≠ d) (hi : ∀ p, g ≠ .own ∧ g ≠ .tup p) (hj : ∀ m u m', g ≠ .mo m ∧ g ≠ .hole u m' := by intro _ _ _; exact ⟨by simp, by simp⟩) : Real X (s.put d v' c') d v c g := by
  cases g with
  | dead => trivial
  | fl => exact h
  | own => exact absurd rfl (hi []).1
  | sh => exact h
  | fz => exact h
  | rn => exact h
  | rd x => exact h
  | al x => exact ⟨h.1, h.2.1.trans (S.put_v_ne (hd x rfl)).symm, h.2.2.trans (S.put_c_ne (hd x rfl)).symm⟩
  | bal u n =>
    obtain ⟨r, j, b, vals, e, h1, h2⟩ := h
    exact ⟨r, j, b, vals, e, (S.put_v_ne (hd u rfl)).trans h1, h2⟩
  | brd => exact h
  | ptr ck m => exact h
  | fn => exact h
  | ea t =>
    obtain ⟨i, j, e, xs, ad, cap, h1, h2, h3, h4, h5⟩ := h
    exact ⟨i, j, e, xs, ad, cap, h1, (S.put_v_ne (hd t rfl)).trans h2, h3, (S.put_c_ne (hd t rfl)).trans h4, h5⟩
  | tup ks => exact absurd rfl (hi ks).2
  | mo m => exact absurd rfl (hj m 0 none).1
  | hole u m => exact absurd rfl (hj 0 u m).2
  | eal t u =>
    obtain ⟨q, j, e, xs, x, ad, cap, h1, h2, h3⟩ := h
    exact ⟨q, j, e, xs, x, ad, cap, (S.put_v_ne (hd u (.inr rfl))).trans h1, (S.put_v_ne (hd t (.inl rfl))).trans h2, h3.1, h3.2.1, (S.put_c_ne (hd t (.inl rfl))).trans h3.2.2.1, h3.2.2.2⟩
  | pm m => exact h

/-- What is in hand goes into a slot. -/
theorem Sim.ownPut {X : Cx} {Γ : List G} {s : S} {d i : Nat} {v : PV} {c : Value} (h : Sim X Γ s) (hd : d < Γ.length) (hr : R X.P s.w .own (s.fp (· = .res i)) v c) :
    ∃ L', Sim X (setG none false d .own Γ) (({ s with L := L' } : S).put d v c) ∧ Fr X s.L s.w L' s.w ∧ (∀ k j, j ≠ i → s.L k = .res j → L' k = .res j) := by
  let L' : Nat → Lab := fun k => if s.L k = .res i then .s d else s.L k
  have hL : ∀ k, s.L k ≠ .res i → L' k = s.L k := fun k hk => if_neg hk
  -- the label of what is in hand is used by no slot
  have hno : ∀ g j, ¬ G.uses g j (.res i) := by intro g j; cases g <;> simp [G.uses, Lab.isB]
  refine ⟨L', ?_, ⟨rfl, rfl, rfl, Nat.le_refl _, fun k _ hk => ⟨rfl, hL k (by intro hx; rw [hx] at hk; exact hk)⟩⟩, fun k j hj hk => (hL k (by rw [hk]; intro hx; injection hx with hx; exact hj hx)).trans hk⟩
  have h1 : Sim X Γ { s with L := L' } := by
    refine ⟨h.lenG, h.lenA, h.defs, fun j g hg => ?_, fun r b hb => ?_, fun k hk => ?_, h.n0⟩
    · refine (h.slot j g hg).out ⟨rfl, rfl, fun k hk => ⟨hL k ?_, rfl⟩, fun _ _ => ⟨rfl, rfl⟩, fun _ r b hr => ⟨b, hr, rfl, rfl, fun _ _ => ⟨rfl, rfl⟩⟩, fun _ _ _ _ _ => rfl⟩
      intro hx; rw [hx] at hk; exact hno g j hk
    · have hbo := h.box r b hb
      refine BoxOk.step hbo ⟨hL _ ?_, rfl⟩ (fun k hk => ⟨hL k ?_, rfl⟩) (H_lt hb) (Nat.le_refl _) (fun _ _ => rfl)
      · obtain ⟨_, _, _, h2, _⟩ := hbo; rw [h2]; simp
      · rcases hk with ⟨j, hk⟩ | hk | hk <;> rw [hk] <;> simp
    · have := h.top k hk
      rw [← this]; exact hL k (by rw [this]; simp)
  exact h1.set hd (.inr (R.relabel (s1 := ({ s with L := L' } : S).put d v c) hr fun k hk => ⟨show L' k = .s d from if_pos hk, rfl⟩))

/-- A tuple goes from slot to slot. -/
theorem Sim.tupMove {X : Cx} {Γ : List G} {s : S} {t d : Nat} {ks : List TK} (h : Sim X Γ s) (ht : Γ[t]? = some (.tup ks)) (hne : t ≠ d) (hd : d < Γ.length) :
    ∃ L', Sim X (setG none false d (.tup ks) (Γ.set t .dead)) (({ s with L := L' } : S).put d (s.v t) (s.c t)) ∧ Fr X s.L s.w L' s.w := by
  let L' : Nat → Lab := fun k => match s.L k with | .t x j => if x = t then .t d j else .t x j | l => l
  have hL : ∀ k, (∀ j, s.L k ≠ .t t j) → L' k = s.L k := fun k hk => by
    simp only [L']
    split
    · rename_i x j hx
      rw [if_neg (by rintro rfl; exact hk j hx), hx]
    · rfl
  have hT : ∀ k j, s.L k = .t t j → L' k = .t d j := fun k j hk => by simp only [L']; rw [hk]; simp
  have h1 : Sim X (Γ.set t .dead) { s with L := L' } := by
    refine ⟨by simp [h.lenG], h.lenA, h.defs, fun i g hi => ?_, fun r b hb => ?_, fun k hk => ?_, h.n0⟩
    · by_cases hit : i = t
      · subst hit
        rw [List.getElem?_set_self (by rw [List.getElem?_eq_some_iff] at ht; exact ht.1)] at hi
        injection hi with hi
        subst hi
        exact .inr trivial
      · rw [List.getElem?_set_ne (Ne.symm hit)] at hi
        refine (h.slot i g hi).out ⟨rfl, rfl, fun k hk => ⟨hL k ?_, rfl⟩, fun _ _ => ⟨rfl, rfl⟩, fun _ r b hr => ⟨b, hr, rfl, rfl, fun _ _ => ⟨rfl, rfl⟩⟩, fun _ _ _ _ _ => rfl⟩
        intro j hx
        rw [hx] at hk
        cases g <;> simp [G.uses, Lab.isB] at hk
        exact hit hk.symm
    · have hbo := h.box r b hb
      refine BoxOk.step hbo ⟨hL _ ?_, rfl⟩ (fun k hk => ⟨hL k ?_, rfl⟩) (H_lt hb) (Nat.le_refl _) (fun _ _ => rfl)
      · obtain ⟨_, _, _, h2, _⟩ := hbo; rw [h2]; simp
      · rcases hk with ⟨j, hk⟩ | hk | hk <;> rw [hk] <;> simp
    · have := h.top k hk
      rw [← this]; exact hL k (by rw [this]; simp)
  refine ⟨L', h1.set (by simpa using hd) ?_, rfl, rfl, rfl, Nat.le_refl _, fun k _ hl => ⟨rfl, hL k (by intro j hx; rw [hx] at hl; exact hl)⟩⟩
  rcases h.slot t _ ht with hu | ⟨vs, cs, h1, h2, h3, h4, h5⟩
  · exact .inl hu
  · refine .inr ⟨vs, cs, h1, h2, h3, h4, fun j hj => ?_⟩
    have := h5 j hj
    cases htk : ks.getD j .fl with
    | fl => rw [htk] at this; exact this
    | own => rw [htk] at this; exact R.relabel (s1 := ({ s with L := L' } : S).put d _ _) this fun k hk => ⟨hT k j hk, rfl⟩
    | sh => rw [htk] at this; exact R.relabel (s1 := ({ s with L := L' } : S).put d _ _) this fun k hk => ⟨(hL k (by rw [show s.L k = .sh from hk]; simp)).trans hk, rfl⟩
    | fz => rw [htk] at this; exact R.relabel (s1 := ({ s with L := L' } : S).put d _ _) this fun k hk => ⟨(hL k (by rw [show s.L k = .nw from hk]; simp)).trans hk, rfl⟩
    | dd => trivial

def copyV (d : Nat) (x : Operand) (σ : List PV) (H : Boxes) (K : KV) : Prop := K (σ.set d (valO σ x)) H
def takeV (d : Nat) (x : Operand) (src : Src) (σ : List PV) (H : Boxes) (K : KV) : Prop := valO σ x ≠ .undef ∧ K (σ.set d (valO σ x)) (eatH σ H src)

theorem eatH_eq (s : S) (src : Src) : eatH s.σ s.H src = eatH s.σ s.H src := rfl

theorem copy_sound {X : Cx} {E : Env} {Γ Γ' : List G} {s : S} {L0 : Nat → Lab} {w0 : World} {K : KV} {o : Oper} {Q : Exit → Act → World → Prop} {d : Nat} {x : Operand} {asg : Bool} {cop : COp}
    (he : elabCopy asg E Γ d x = some (cop, Γ')) (hd : d < Γ.length) (ho : o.dst = some d) (hr : ∀ ρ, execOp ρ o = pure (.value (ρ x))) (h : Sim X Γ s) (f : Fr X L0 w0 s.L s.w)
    (hk : (∃ src, cop = .take d x src ∧ takeV d x src s.σ s.H K) ∨ (cop = .copy d x ∧ copyV d x s.σ s.H K)) : o.wp X.P s.a s.w (Good X Γ' L0 w0 K) Q := by
  have hrun : (execOp s.a.eval o).run X.P s.w = .ok (.value (s.a.eval x)) s.w := by rw [hr]; rfl
  have hop := h.opnd x
  have plain : ∀ g, (Real X s (slotO x) (valO s.σ x) (s.a.eval x) (kdO Γ x) → Real X (s.put d (valO s.σ x) (s.a.eval x)) d (valO s.σ x) (s.a.eval x) g) → some (COp.copy d x, setG none false d g Γ) = some (cop, Γ') → o.wp X.P s.a s.w (Good X Γ' L0 w0 K) Q := by
    intro g hg he
    injection he with he
    injection he with e1 e2
    subst e2
    subst e1
    rcases hk with ⟨_, h1, _⟩ | ⟨_, hk⟩
    · cases h1
    · exact good_set h f hd ho hrun (hop.imp id hg) hk
  have take : (match eat .own Γ x with | some (Γ1, src) => some (COp.take d x src, setG none false d .own Γ1) | none => none) = some (cop, Γ') → o.wp X.P s.a s.w (Good X Γ' L0 w0 K) Q := by
    intro he
    cases hea : eat .own Γ x with
    | none => rw [hea] at he; cases he
    | some z =>
      obtain ⟨Γ1, src⟩ := z
      rw [hea] at he
      simp only [Option.some.injEq, Prod.mk.injEq] at he
      obtain ⟨rfl, rfl⟩ := he
      rcases hk with ⟨src', h1, hu, hk⟩ | ⟨h1, _⟩
      · injection h1 with _ _ h1; subst h1
        obtain ⟨L1, hs1, ht, hf1, _⟩ := h.eat hea hu 0
        have hd1 : d < Γ1.length := by rw [hs1.lenG, ← h.lenG]; exact hd
        obtain ⟨L2, hs2, hf2, _⟩ := hs1.ownPut hd1 ht
        refine op_value hrun ?_
        rw [ho]
        refine ⟨_, ?_, ?_, hs2, (f.trans hf1).trans hf2, hk⟩ <;> rfl
      · cases h1
  unfold elabCopy at he
  simp only at he
  split at he
  · rename_i hkd; exact plain _ (fun hh => by rw [hkd] at hh; exact hh.put (fun y hy => by cases hy) (fun _ => ⟨by simp, by simp⟩)) he
  · rename_i hkd; exact plain _ (fun hh => by rw [hkd] at hh; exact hh.put (fun y hy => by cases hy) (fun _ => ⟨by simp, by simp⟩)) he
  · rename_i hkd; exact plain _ (fun hh => by rw [hkd] at hh; exact hh.put (fun y hy => by cases hy) (fun _ => ⟨by simp, by simp⟩)) he
  · rename_i hkd; exact plain _ (fun hh => by rw [hkd] at hh; exact hh.put (fun y hy => by cases hy) (fun _ => ⟨by simp, by simp⟩)) he
  · rename_i hkd; exact plain _ (fun hh => by rw [hkd] at hh; exact hh.put (fun y hy => by cases hy) (fun _ => ⟨by simp, by simp⟩)) he
  · rename_i hkd; exact plain _ (fun hh => by rw [hkd] at hh; exact hh.put (fun y hy => by cases hy) (fun _ => ⟨by simp, by simp⟩)) he
  · rename_i hkd; exact plain _ (fun hh => by rw [hkd] at hh; exact hh.put (fun y hy => by cases hy) (fun _ => ⟨by simp, by simp⟩)) he
  · rename_i hkd; exact plain _ (fun hh => by rw [hkd] at hh; exact hh.put (fun y hy => by cases hy) (fun _ => ⟨by simp, by simp⟩)) he
  · rename_i y hkd
    split at he
    · cases he
    · exact plain _ (fun hh => by rw [hkd] at hh; exact hh.put (fun y hy => by cases hy) (fun _ => ⟨by simp, by simp⟩)) he
  · rename_i t hkd
    split at he
    · cases he
    · rename_i hn; exact plain _ (fun hh => by rw [hkd] at hh; exact hh.put (fun y hy => by cases hy; exact hn) (fun _ => ⟨by simp, by simp⟩)) he
  · rename_i u n hkd
    split at he
    · cases he
    · rename_i hn; exact plain _ (fun hh => by rw [hkd] at hh; exact hh.put (fun y hy => by cases hy; exact hn) (fun _ => ⟨by simp, by simp⟩)) he
  · rename_i hkd
    split at he
    · cases he
    · rename_i hn
      split at he
      · exact take he
      · refine plain _ (fun hh => ?_) he
        rw [hkd] at hh
        cases x with
        | tmp t => exact ⟨hh, (S.put_v_ne hn).symm, (S.put_c_ne hn).symm⟩
        | const v => cases hkd
        | func f => cases hkd
        | global g => cases hkd
  · rename_i m hkd
    split at he
    · cases he
    · rename_i hn
      split at he
      · exact take he
      · refine plain _ (fun hh => ?_) he
        rw [hkd] at hh
        cases x with
        | tmp t => exact ⟨hh.1, (S.put_v_ne hn).symm, (S.put_c_ne hn).symm⟩
        | const v => cases hkd
        | func f => cases hkd
        | global g => cases hkd
  · rename_i t u hkd
    split at he
    · cases he
    · rename_i hn; exact plain _ (fun hh => by rw [hkd] at hh; exact hh.put (fun y hy => by rcases hy with rfl | rfl; exact fun h => hn (.inl h); exact fun h => hn (.inr h)) (fun _ => ⟨by simp, by simp⟩)) he
  · rename_i y hkd
    split at he
    · cases he
    · rename_i hn
      split at he
      · exact take he
      · exact plain _ (fun hh => by rw [hkd] at hh; exact hh.put (fun y hy => by cases hy; exact hn) (fun _ => ⟨by simp, by simp⟩)) he
  · rename_i ks hkd
    split at he
    · rename_i t
      split at he
      · cases he
      · rename_i hne
        simp only [Option.some.injEq, Prod.mk.injEq] at he
        obtain ⟨rfl, rfl⟩ := he
        rcases hk with ⟨_, h1, _⟩ | ⟨_, hk⟩
        · cases h1
        have hgt : Γ[t]? = some (.tup ks) := by
          simp only [kdO, List.getD_eq_getElem?_getD] at hkd
          cases hx : Γ[t]? with
          | none => rw [hx] at hkd; cases hkd
          | some g => rw [hx] at hkd; simp only [Option.getD_some] at hkd; rw [hkd]
        obtain ⟨L1, hs1, hf1⟩ := h.tupMove hgt hne hd
        refine op_value hrun ?_
        rw [ho]
        exact ⟨({ s with L := L1 } : S).put d (s.v t) (s.c t), rfl, rfl, hs1, f.trans hf1, hk⟩
    · cases he
  · cases he

end Go.Den
set_option autoImplicit false
namespace Go.Den

section
variable {X : Cx} {Γ : List G} {s : S} {L0 : Nat → Lab} {w0 : World} {K : KV} {o : Oper} {Q : Exit → Act → World → Prop} {d : Nat}

theorem good_flat {v : PV} {c : Value} (h : Sim X Γ s) (f : Fr X L0 w0 s.L s.w) (hd : d < Γ.length) (ho : o.dst = some d) (hr : (execOp s.a.eval o).run X.P s.w = .ok (.value c) s.w) (hv : v.flat = some c) (hk : K (s.σ.set d v) s.H) :
    o.wp X.P s.a s.w (Good X (setG none false d .fl Γ) L0 w0 K) Q :=
  good_set h f hd ho hr (.inr (R.flat hv)) hk

def optK (v : Option PV) (K : PV → Prop) : Prop := match v with | some v => K v | none => False
theorem optK.get {v : Option PV} {K : PV → Prop} (h : optK v K) : ∃ x, v = some x ∧ K x := by
  cases v with
  | none => exact h.elim
  | some x => exact ⟨x, rfl, h⟩

theorem binV_undef_l {op : BinOp} {y : PV} : binV op .undef y = none := rfl
theorem binV_undef_r {op : BinOp} {x : PV} : binV op x .undef = none := by cases x <;> rfl

theorem fl_of {x : Operand} {v : PV} (h : Sim X Γ s) (hk : kdO Γ x = .fl) (hv : valO s.σ x = v) (hu : v ≠ .undef) : R X.P s.w .rep (fun _ => False) v (s.a.eval x) := by
  subst hv; exact h.opnd' hk hu

theorem bin_sound {op : BinOp} {t yt : TypeId} {x y : Operand} (h : Sim X Γ s) (f : Fr X L0 w0 s.L s.w) (hd : d < Γ.length) (ho : o.dst = some d) (hop : o.op = .binOp op t x y yt) (hx : kdO Γ x = .fl) (hy : kdO Γ y = .fl)
    (hk : optK (binV op (valO s.σ x) (valO s.σ y)) fun v => K (s.σ.set d v) s.H) : o.wp X.P s.a s.w (Good X (setG none false d .fl Γ) L0 w0 K) Q := by
  obtain ⟨v, hv, hk⟩ := hk.get
  have h1 := fl_of h hx rfl (by intro hu; rw [hu, binV_undef_l] at hv; cases hv)
  have h2 := fl_of h hy rfl (by intro hu; rw [hu, binV_undef_r] at hv; cases hv)
  obtain ⟨c, hr, hf⟩ := run_bin (t := t) (x := x) (y := y) hv h1 h2
  refine good_flat h f hd ho (c := c) ?_ hf hk
  unfold execOp
  simp only [hop, Sem.run_bind, Sem.run_pure] at hr ⊢
  rw [hr]; rfl

theorem equal_bool {P : Program} {t : TypeId} (ht : P.underlying t = some .bool) (a b : Bool) (w : World) : (Op.equal t (.bool a) (.bool b)).run P w = .ok (a == b) w := by
  have key : ∀ n, (Op.equalIn (n + 1) t (.bool a) (.bool b)).run P w = .ok (a == b) w := fun n => by simp [Op.equalIn, run_underlying ht]
  exact key 9999
theorem equal_nil {P : Program} {t e : TypeId} (ht : P.underlying t = some (.slice e)) (a : Option Addr) (n c : Nat) (w : World) : (Op.equal t (.slice a n c) (.slice none 0 0)).run P w = .ok a.isNone w := by
  have key : ∀ k, (Op.equalIn (k + 1) t (.slice a n c) (.slice none 0 0)).run P w = .ok a.isNone w := fun k => by cases a <;> simp [Op.equalIn, run_underlying ht]
  exact key 9999
theorem guard_bool {op : BinOp} {t : TypeId} {x y : Operand} {a b : Bool} {P : Program} {w : World} : (eqGuard op t x y (.bool a) (.bool b)).run P w = .ok () w := by unfold eqGuard; cases op <;> rfl
theorem guard_slice {op : BinOp} {t : TypeId} {x y : Operand} {a b : Option Addr} {n c n' c' : Nat} {P : Program} {w : World} : (eqGuard op t x y (.slice a n c) (.slice b n' c')).run P w = .ok () w := by unfold eqGuard; cases op <;> rfl

/-- '==' and '!=' of bools. -/
def beqV (neg : Bool) : PV → PV → Option PV
  | .bool a, .bool b => some (.bool (if neg then a != b else a == b))
  | _, _ => none
theorem beq_sound {op : BinOp} {neg : Bool} {t yt : TypeId} {x y : Operand} (h : Sim X Γ s) (f : Fr X L0 w0 s.L s.w) (hd : d < Γ.length) (ho : o.dst = some d) (hop : o.op = .binOp op t x y yt) (hx : kdO Γ x = .fl) (hy : kdO Γ y = .fl)
    (ht : X.P.underlying t = some .bool) (hneg : op = if neg then .neq else .eql)
    (hk : optK (beqV neg (valO s.σ x) (valO s.σ y)) fun v => K (s.σ.set d v) s.H) : o.wp X.P s.a s.w (Good X (setG none false d .fl Γ) L0 w0 K) Q := by
  obtain ⟨v, hv, hk⟩ := hk.get
  unfold beqV at hv
  split at hv
  · rename_i a b e1 e2
    injection hv with hv
    subst hv
    have h1 := (fl_of h hx e1 (by simp)).bool_inv
    have h2 := (fl_of h hy e2 (by simp)).bool_inv
    refine good_flat h f hd ho (c := .bool (if neg then a != b else a == b)) ?_ rfl hk
    unfold execOp
    simp only [hop, h1, h2]
    have he := equal_bool ht a b s.w
    cases neg <;> simp at hneg <;> subst hneg <;> simp [guard_bool, binOp, he, bne]
  · cases hv

theorem un_sound {op : UnOp} {t : TypeId} {x : Operand} (h : Sim X Γ s) (f : Fr X L0 w0 s.L s.w) (hd : d < Γ.length) (ho : o.dst = some d) (hop : o.op = .unOp op t x) (hx : kdO Γ x = .fl)
    (hk : optK (unV op (valO s.σ x)) fun v => K (s.σ.set d v) s.H) : o.wp X.P s.a s.w (Good X (setG none false d .fl Γ) L0 w0 K) Q := by
  obtain ⟨v, hv, hk⟩ := hk.get
  unfold unV at hv
  split at hv
  · rename_i k n e1
    have h1 := (fl_of h hx e1 (by simp)).int_inv
    split at hv <;> simp only [Option.some.injEq, reduceCtorEq] at hv
    subst hv
    refine good_flat h f hd ho (c := .int k (k.wrap (0 - n))) ?_ rfl hk
    unfold execOp
    simp [hop, h1, Op.unary, Op.intArith]
  · rename_i b e1
    have h1 := (fl_of h hx e1 (by simp)).bool_inv
    split at hv <;> simp only [Option.some.injEq, reduceCtorEq] at hv
    subst hv
    refine good_flat h f hd ho (c := .bool !b) ?_ rfl hk
    unfold execOp
    simp [hop, h1, Op.unary]
  · cases hv

def convV (k : IntKind) : PV → Option PV
  | .int _ n => some (.int k (k.wrap n))
  | _ => none
theorem conv_sound {k : IntKind} {t t' : TypeId} {x : Operand} (h : Sim X Γ s) (f : Fr X L0 w0 s.L s.w) (hd : d < Γ.length) (ho : o.dst = some d) (hop : o.op = .convert t t' x) (hx : kdO Γ x = .fl) (ht : (X.P.underlying t).isSome = true) (ht' : X.P.underlying t' = some (.int k))
    (hk : optK (convV k (valO s.σ x)) fun v => K (s.σ.set d v) s.H) : o.wp X.P s.a s.w (Good X (setG none false d .fl Γ) L0 w0 K) Q := by
  obtain ⟨v, hv, hk⟩ := hk.get
  unfold convV at hv
  split at hv
  · rename_i k0 n e1
    injection hv with hv
    subst hv
    have h1 := (fl_of h hx e1 (by simp)).int_inv
    obtain ⟨u, hu⟩ := Option.isSome_iff_exists.1 ht
    refine good_flat h f hd ho (c := .int k (k.wrap n)) ?_ rfl hk
    unfold execOp
    simp [hop, h1, convert, run_underlying hu, run_underlying ht', Conv.intToInt]
  · cases hv
theorem convStr_sound {t t' : TypeId} {x : Operand} (h : Sim X Γ s) (f : Fr X L0 w0 s.L s.w) (hd : d < Γ.length) (ho : o.dst = some d) (hop : o.op = .convert t t' x) (hx : kdO Γ x = .fl) (ht : X.P.underlying t = some .string) (ht' : X.P.underlying t' = some .string)
    (hk : optK (match valO s.σ x with | .str b => some (.str b) | _ => none) fun v => K (s.σ.set d v) s.H) : o.wp X.P s.a s.w (Good X (setG none false d .fl Γ) L0 w0 K) Q := by
  obtain ⟨v, hv, hk⟩ := hk.get
  split at hv
  · rename_i b e1
    injection hv with hv
    subst hv
    have h1 := (fl_of h hx e1 (by simp)).str_inv
    refine good_flat h f hd ho (c := .string b) ?_ rfl hk
    unfold execOp
    simp [hop, h1, convert, run_underlying ht, run_underlying ht']
  · cases hv

def pickV (c a b : PV) (K : PV → Prop) : Prop :=
  match c with
  | .bool t => (t = true → a ≠ .undef ∧ K a) ∧ (t = false → b ≠ .undef ∧ K b)
  | _ => False
theorem pick_sound {x y z : Operand} (h : Sim X Γ s) (f : Fr X L0 w0 s.L s.w) (hd : d < Γ.length) (ho : o.dst = some d) (hop : o.op = .pick x y z) (hx : kdO Γ x = .fl) (hy : kdO Γ y = .fl) (hz : kdO Γ z = .fl)
    (hk : pickV (valO s.σ x) (valO s.σ y) (valO s.σ z) fun v => K (s.σ.set d v) s.H) : o.wp X.P s.a s.w (Good X (setG none false d .fl Γ) L0 w0 K) Q := by
  unfold pickV at hk
  split at hk
  · rename_i t e1
    have h1 := (fl_of h hx e1 (by simp)).bool_inv
    cases t with
    | true =>
      obtain ⟨hu, hk⟩ := hk.1 rfl
      exact good_set h f hd ho (c := s.a.eval y) (by unfold execOp; simp [hop, h1, asBool]) (.inr (h.opnd' hy hu)) hk
    | false =>
      obtain ⟨hu, hk⟩ := hk.2 rfl
      exact good_set h f hd ho (c := s.a.eval z) (by unfold execOp; simp [hop, h1, asBool]) (.inr (h.opnd' hz hu)) hk
  · exact hk.elim

theorem data_of {x : Operand} {v : PV} {p : Lab → Prop} (h : Sim X Γ s) (hk : (kdO Γ x).data (slotO x) = some p) (hv : valO s.σ x = v) (hu : v ≠ .undef) : R X.P s.w .rep (s.fp p) v (s.a.eval x) := by
  subst hv; exact (h.opnd' rfl hu).data h hk

def lenV (str : Bool) : PV → Option PV
  | .nil => if str then none else some (.int .i64 0)
  | .sl _ xs => if str then none else some (.int .i64 xs.length)
  | .str s => if str then some (.int .i64 s.size) else none
  | _ => none
theorem len_sound {str : Bool} {x : Operand} {ts : Array TypeId} {t : TypeId} (h : Sim X Γ s) (f : Fr X L0 w0 s.L s.w) (hd : d < Γ.length) (ho : o.dst = some d) (hop : o.op = .call { callee := .builtin .len, args := #[x], argTypes := ts }) (hts : ts[0]? = some t)
    (hx : ((kdO Γ x).data (slotO x)).isSome = true) (ht : if str then X.P.underlying t = some .string else ∃ e, X.P.underlying t = some (.slice e))
    (hk : optK (lenV str (valO s.σ x)) fun v => K (s.σ.set d v) s.H) : o.wp X.P s.a s.w (Good X (setG none false d .fl Γ) L0 w0 K) Q := by
  obtain ⟨v, hv, hk⟩ := hk.get
  obtain ⟨p, hp⟩ := Option.isSome_iff_exists.1 hx
  have run : ∀ n : Int, v = .int .i64 n → (Builtin.len_ ts o.type #[s.a.eval x]).run X.P s.w = .ok (goInt n) s.w → o.wp X.P s.a s.w (Good X (setG none false d .fl Γ) L0 w0 K) Q := by
    rintro n rfl hr
    refine good_flat h f hd ho (c := .int .i64 n) ?_ rfl hk
    unfold execOp
    simp [hop, resolve, invoke, builtin, hr, goInt]
  unfold lenV at hv
  split at hv
  · rename_i e1
    split at hv <;> simp only [Option.some.injEq, reduceCtorEq] at hv
    rename_i hs
    simp only [hs, Bool.false_eq_true, if_false] at ht
    obtain ⟨e, ht⟩ := ht
    have h1 := (data_of h hp e1 (by simp)).nil_inv
    exact run 0 hv.symm (by rw [h1]; simp [Builtin.len_, hts, run_underlying ht])
  · rename_i e' xs e1
    split at hv <;> simp only [Option.some.injEq, reduceCtorEq] at hv
    rename_i hs
    simp only [hs, Bool.false_eq_true, if_false] at ht
    obtain ⟨e, ht⟩ := ht
    obtain ⟨ad, cap, h1, _, _⟩ := (data_of h hp e1 (by simp)).sl_inv
    exact run xs.length hv.symm (by rw [h1]; simp [Builtin.len_, hts, run_underlying ht])
  · rename_i b e1
    split at hv <;> simp only [Option.some.injEq, reduceCtorEq] at hv
    rename_i hs
    simp only [hs, if_true] at ht
    have h1 := (data_of h hp e1 (by simp)).str_inv
    exact run b.size hv.symm (by rw [h1]; simp [Builtin.len_, hts, run_underlying ht])
  · cases hv

def isnilV (neg : Bool) : PV → Option PV
  | .nil => some (.bool (!neg))
  | .sl _ _ => some (.bool neg)
  | _ => none
theorem isnil_sound {op : BinOp} {neg : Bool} {t yt : TypeId} {x : Operand} (h : Sim X Γ s) (f : Fr X L0 w0 s.L s.w) (hd : d < Γ.length) (ho : o.dst = some d) (hop : o.op = .binOp op t x (.const (.slice none 0 0)) yt)
    (hx : ((kdO Γ x).data (slotO x)).isSome = true) (ht : ∃ e, X.P.underlying t = some (.slice e)) (hneg : op = if neg then .neq else .eql)
    (hk : optK (isnilV neg (valO s.σ x)) fun v => K (s.σ.set d v) s.H) : o.wp X.P s.a s.w (Good X (setG none false d .fl Γ) L0 w0 K) Q := by
  obtain ⟨v, hv, hk⟩ := hk.get
  obtain ⟨p, hp⟩ := Option.isSome_iff_exists.1 hx
  obtain ⟨e, ht⟩ := ht
  unfold isnilV at hv
  split at hv
  · rename_i e1
    injection hv with hv
    subst hv
    have h1 := (data_of h hp e1 (by simp)).nil_inv
    refine good_flat h f hd ho (c := .bool (!neg)) ?_ rfl hk
    unfold execOp
    have he := equal_nil ht none 0 0 s.w
    have ev : s.a.eval (.const (.slice none 0 0)) = .slice none 0 0 := rfl
    cases neg <;> simp at hneg <;> subst hneg <;> simp [hop, h1, ev, guard_slice, binOp, he]
  · rename_i e' xs e1
    injection hv with hv
    subst hv
    obtain ⟨ad, cap, h1, _, _⟩ := (data_of h hp e1 (by simp)).sl_inv
    refine good_flat h f hd ho (c := .bool neg) ?_ rfl hk
    unfold execOp
    have he := equal_nil ht (some ad) xs.length cap s.w
    have ev : s.a.eval (.const (.slice none 0 0)) = .slice none 0 0 := rfl
    cases neg <;> simp at hneg <;> subst hneg <;> simp [hop, h1, ev, guard_slice, binOp, he]
  · cases hv

def mmV (mx : Bool) : PV → PV → Option PV
  | .int k x, .int _ y => some (.int k (if mx then (if y > x then y else x) else (if y < x then y else x)))
  | _, _ => none
theorem mm_sound {mx : Bool} {x y : Operand} {ts : Array TypeId} (h : Sim X Γ s) (f : Fr X L0 w0 s.L s.w) (hd : d < Γ.length) (ho : o.dst = some d) (hop : o.op = .call { callee := .builtin (if mx then .max else .min), args := #[x, y], argTypes := ts })
    (hx : kdO Γ x = .fl) (hy : kdO Γ y = .fl) (hk : optK (mmV mx (valO s.σ x) (valO s.σ y)) fun v => K (s.σ.set d v) s.H) : o.wp X.P s.a s.w (Good X (setG none false d .fl Γ) L0 w0 K) Q := by
  obtain ⟨v, hv, hk⟩ := hk.get
  unfold mmV at hv
  split at hv
  · rename_i k a k' b e1 e2
    injection hv with hv
    subst hv
    have h1 := (fl_of h hx e1 (by simp)).int_inv
    have h2 := (fl_of h hy e2 (by simp)).int_inv
    refine good_flat h f hd ho (c := .int k (if mx then (if b > a then b else a) else (if b < a then b else a))) ?_ rfl hk
    unfold execOp
    cases mx <;> simp [hop, resolve, invoke, builtin, h1, h2, Builtin.max_, Builtin.min_, Builtin.max2, Builtin.min2]
  · cases hv

def sidxV : PV → PV → Option PV
  | .str b, .int _ i => if h : 0 ≤ i ∧ i.toNat < b.size then some (.int .u8 ((b[i.toNat]'h.2).toNat)) else none
  | _, _ => none
theorem sidx_sound {t : TypeId} {x y : Operand} (h : Sim X Γ s) (f : Fr X L0 w0 s.L s.w) (hd : d < Γ.length) (ho : o.dst = some d) (hop : o.op = .index t x y) (hx : kdO Γ x = .fl) (hy : kdO Γ y = .fl) (ht : X.P.underlying t = some .string)
    (hk : optK (sidxV (valO s.σ x) (valO s.σ y)) fun v => K (s.σ.set d v) s.H) : o.wp X.P s.a s.w (Good X (setG none false d .fl Γ) L0 w0 K) Q := by
  obtain ⟨v, hv, hk⟩ := hk.get
  unfold sidxV at hv
  split at hv
  · rename_i b k i e1 e2
    split at hv <;> simp only [Option.some.injEq, reduceCtorEq] at hv
    rename_i hi
    subst hv
    have h1 := (fl_of h hx e1 (by simp)).str_inv
    have h2 := (fl_of h hy e2 (by simp)).int_inv
    refine good_flat h f hd ho (c := .int .u8 ((b[i.toNat]'hi.2).toNat)) ?_ rfl hk
    unfold execOp
    simp [hop, Instr.index, h1, h2, asIntOf, run_underlying ht, hi.1, getElem?_pos b i.toNat hi.2]
  · cases hv
end
end Go.Den
set_option autoImplicit false
namespace Go.Den

theorem R.cells {P : Program} {w : World} {m : M} {fp : Nat → Prop} {v : PV} {c : Value} (h : R P w m fp v c) (hv : v ≠ .undef) :
    ∃ lab : Nat → Nat, c.cells.size = v.cells.length ∧ ∀ j, j < v.cells.length → R P w m (part m fp lab none j) (v.cells.getD j .undef) (c.cells.getD j Go.undef) := by
  have one : v.cells = [v] → c.cells = #[c] → ∃ lab : Nat → Nat, c.cells.size = v.cells.length ∧ ∀ j, j < v.cells.length → R P w m (part m fp lab none j) (v.cells.getD j .undef) (c.cells.getD j Go.undef) := by
    intro h1 h2
    rw [h1, h2]
    refine ⟨fun _ => 0, rfl, fun j hj => ?_⟩
    obtain rfl : j = 0 := by simpa using hj
    refine R.mono h fun k hk => ?_
    cases m
    · exact ⟨hk, by simp, rfl⟩
    · exact hk
    · exact hk
  cases h with
  | unk => exact absurd rfl hv
  | flat h => exact one (by cases v <;> simp [PV.flat] at h <;> rfl) (by cases v <;> simp [PV.flat] at h <;> subst h <;> rfl)
  | agg lab hl h => exact ⟨lab, hl, h⟩
  | row lab cs hsz hpos hrow hfp h =>
    obtain ⟨ad, cap, rfl, _⟩ := hrow.rep
    exact one rfl rfl

theorem alloc_old (w : World) (o : Obj) {k : Nat} (hk : k < w.heap.size) : (w.alloc o).heap[k]? = w.heap[k]? := heap_alloc_old w o k hk
theorem alloc_size (w : World) (o : Obj) : (w.alloc o).heap.size = w.heap.size + 1 := World.size_alloc w o

theorem view_new {X : Cx} {r : Nat} {ck : CK} (h : X.lim ≤ r) : X.view r ck = ck := by
  unfold Cx.view
  rw [if_neg]
  rintro ⟨h2, _⟩
  omega

/-- A new variable in memory. -/
theorem Sim.newBox {X : Cx} {Γ : List G} {s : S} {d : Nat} {ck : CK} {cs : List PV} {vals : Array Value} {e : Nat} {L' : Nat → Lab} (h : Sim X Γ s) (hd : d < Γ.length) (hsz : vals.size = cs.length)
    (hL : ∀ k, k < s.w.heap.size → (∀ j, s.L k ≠ .res j) → L' k = s.L k) (hnew : L' s.w.heap.size = .bk s.H.length) (htop : ∀ k, s.w.heap.size < k → L' k = .no)
    (hc : ∀ (s' : S), s' = { s with H := s.H ++ [(ck, cs)], bm := fun r => if r = s.H.length then s.w.heap.size else s.bm r, L := L', w := s.w.alloc (.cells vals e) } → ∀ j, j < cs.length → CellOk X s' s.H.length j (cs.getD j .undef) (vals.getD j undef) ck) :
    Sim X (setG none false d (.ptr ck true) Γ) (({ s with H := s.H ++ [(ck, cs)], bm := fun r => if r = s.H.length then s.w.heap.size else s.bm r, L := L', w := s.w.alloc (.cells vals e) } : S).put d (.ref s.H.length 0) (.pointer (some ⟨s.w.heap.size, 0, none⟩))) := by
  let bm' : Nat → Nat := fun r => if r = s.H.length then s.w.heap.size else s.bm r
  have hbm : ∀ r, r < s.H.length → bm' r = s.bm r := fun r hr => if_neg (by omega)
  have hlab : ∀ k, k < s.w.heap.size → (∀ j, s.L k ≠ .res j) → L' k = s.L k ∧ (s.w.alloc (.cells vals e)).heap[k]? = s.w.heap[k]? := fun k hk hj => ⟨hL k hk hj, alloc_old _ _ hk⟩
  have hlt : ∀ k, s.L k ≠ .no → k < s.w.heap.size := fun k hk => by
    rcases Nat.lt_or_ge k s.w.heap.size with h1 | h1
    · exact h1
    · exact absurd (h.top k h1) hk
  let s1 : S := { s with H := s.H ++ [(ck, cs)], bm := bm', L := L', w := s.w.alloc (.cells vals e) }
  have hnr : ∀ g i j, ¬ G.uses g i (.res j) := by intro g i j; cases g <;> simp [G.uses, Lab.isB]
  -- first the world, then the slot
  have h1 : Sim X Γ s1 := by
    refine ⟨h.lenG, h.lenA, h.defs, fun i g hg => ?_, fun r b hb => ?_, fun k hk => htop k (by have := alloc_size s.w (.cells vals e); change (s.w.alloc (.cells vals e)).heap.size ≤ k at hk; omega), h.n0.step fun r b hr => ⟨b, by simp only [s1]; rw [List.getElem?_append_left (H_lt hr)]; exact hr, rfl, hbm r (H_lt hr)⟩⟩
    · refine (h.slot i g hg).out ⟨rfl, rfl, fun k hk => hlab k (hlt k (by intro hx; rw [hx] at hk; exact uses_no hk)) (fun j hj => by rw [hj] at hk; exact hnr g i j hk), fun _ _ => ⟨rfl, rfl⟩, fun _ r b hr => ?_, ?_⟩
      rotate_left
      · rintro m r j rfl hrj
        rcases h.slot i _ hg with hu | hu
        · rw [hrj] at hu; cases hu
        · obtain ⟨r', b, vals', e', p1, p2, p3, p4, p5, p6, p7⟩ := hu
          rw [hrj] at p1; injection p1 with p1 _; subst p1
          exact alloc_old _ _ (Array.getElem?_eq_some_iff.1 p6).1
      have hr' := H_lt hr
      obtain ⟨vals', e', g1, _⟩ := h.box r b hr
      exact ⟨b, by simp only [s1]; rw [List.getElem?_append_left hr']; exact hr, rfl, hbm r hr', fun _ _ => ⟨rfl, alloc_old _ _ (Array.getElem?_eq_some_iff.1 g1).1⟩⟩
    · by_cases hr : r < s.H.length
      · have hb' : s.H[r]? = some b := by simp only [s1] at hb; rwa [List.getElem?_append_left hr] at hb
        have hbo := h.box r b hb'
        obtain ⟨vals', e', g1, g2, _⟩ := hbo
        refine BoxOk.step (s1 := s1) (h.box r b hb') (hlab _ (Array.getElem?_eq_some_iff.1 g1).1 (by rw [g2]; simp)) (fun k hk => ?_) hr (by simp [s1]) hbm
        rcases hk with ⟨j, hk⟩ | hk | hk <;> exact hlab k (hlt k (by rw [hk]; simp)) (by rw [hk]; simp)
      · have hreq : r = s.H.length := by
          have := H_lt hb; simp only [s1, List.length_append, List.length_singleton] at this; omega
        subst hreq
        have hb' : b = (ck, cs) := by simpa [s1] using hb.symm
        subst hb'
        refine ⟨vals, e, ?_, ?_, hsz, fun j hj => ?_⟩
        · show (s.w.alloc (.cells vals e)).heap[bm' s.H.length]? = _
          rw [show bm' s.H.length = s.w.heap.size from if_pos rfl]
          exact heap_alloc_new s.w _
        · show L' (bm' s.H.length) = _
          rw [show bm' s.H.length = s.w.heap.size from if_pos rfl]; exact hnew
        · rw [view_new (Nat.le_trans h.n0.1 h.n0.len)]
          exact hc s1 rfl j hj
  refine h1.set hd (.inr ⟨s.H.length, 0, (ck, cs), rfl, ?_, by simp [S.put, s1], view_new (Nat.le_trans h.n0.1 h.n0.len), ⟨fun _ => h.n0.len, fun hx => by cases hx⟩⟩)
  show Value.pointer (some ⟨s.w.heap.size, 0, none⟩) = .pointer (some ⟨bm' s.H.length, 0, none⟩)
  rw [show bm' s.H.length = s.w.heap.size from if_pos rfl]

/-- More is known of a slot. -/
theorem Sim.upgrade {X : Cx} {Γ : List G} {s : S} {d : Nat} {g : G} (h : Sim X Γ s) (hr : s.v d = .undef ∨ Real X s d (s.v d) (s.c d) g) : Sim X (Γ.set d g) s := by
  refine ⟨by rw [List.length_set]; exact h.lenG, h.lenA, h.defs, fun i g' hg => ?_, h.box, h.top, h.n0⟩
  by_cases hi : i = d
  · subst hi
    have hl : i < Γ.length := by have := (List.getElem?_eq_some_iff.1 hg).1; simpa using this
    rw [List.getElem?_set_self hl] at hg
    injection hg with hg
    subst hg
    exact hr
  · rw [List.getElem?_set_ne (Ne.symm hi)] at hg
    exact h.slot i g' hg
theorem setG_set {t : Option Nat} {bx : Bool} {d : Nat} {g g' : G} {Γ : List G} : (setG t bx d g Γ).set d g' = setG t bx d g' Γ := by simp [setG, List.set_set]

/-- Pointers, of whatever kind. -/
def asPtr : G → Option (CK × Bool)
  | .ptr ck m => some (ck, m)
  | .pm _ => some (.own, true)
  | _ => none
theorem Real.asPtr {X : Cx} {s : S} {i : Nat} {v : PV} {c : Value} {g : G} {ck : CK} {m : Bool} (h : Real X s i v c g) (hp : Den.asPtr g = some (ck, m)) : PtrOk X s.bm s.H ck m v c := by
  cases g <;> simp only [Den.asPtr, Option.some.injEq, Prod.mk.injEq, reduceCtorEq] at hp
  case ptr ck' m' => obtain ⟨rfl, rfl⟩ := hp; exact h
  case pm m' =>
    obtain ⟨rfl, rfl⟩ := hp
    obtain ⟨r, b, vals, e, h1, h2, h3, h4, h5, h6, h7⟩ := h
    exact ⟨r, 0, b, h1, h2, h3, h4, fun _ => h5, fun hx => by cases hx⟩

end Go.Den
set_option autoImplicit false
namespace Go.Den

/-! ### Types: one cell, or so many -/
def tyN (P : Program) (t : TypeId) : Option (Option Nat) :=
  match P.underlying t, P.info? t with
  | some (.struct _), some i => some (some i.size)
  | some (.array _ _), some i => some (some i.size)
  | some _, some i => if i.size = 1 then some none else none
  | _, _ => none
def scalarTy (P : Program) (t : TypeId) : Bool :=
  match P.underlying t with
  | some (.int _) | some .bool | some .string => true
  | _ => false
def flatTy (P : Program) (t : TypeId) : Bool :=
  match P.underlying t with
  | some (.int _) | some .bool | some .string => true
  | some (.struct fs) => fs.all fun f => scalarTy P f.type
  | _ => false
def isFuncTy (P : Program) (t : TypeId) : Bool :=
  match P.underlying t with
  | some (.func _ _ _) => true
  | _ => false

theorem tyN_one {P : Program} {t : TypeId} (h : tyN P t = some none) : (∃ d, P.underlying t = some d ∧ (match d with | .struct _ | .array _ _ => False | _ => True)) ∧ ∃ i, P.info? t = some i ∧ i.size = 1 := by
  unfold tyN at h
  split at h
  · simp at h
  · simp at h
  · rename_i d i hd1 hd2 h1 h2
    split at h
    · rename_i hs
      refine ⟨⟨d, h1, ?_⟩, i, h2, hs⟩
      cases d <;> first | trivial | exact (hd1 _ rfl).elim | exact (hd2 _ _ rfl).elim
    · cases h
  · cases h
theorem tyN_agg {P : Program} {t : TypeId} {n : Nat} (h : tyN P t = some (some n)) : (∃ d, P.underlying t = some d ∧ (match d with | .struct _ | .array _ _ => True | _ => False)) ∧ ∃ i, P.info? t = some i ∧ i.size = n := by
  unfold tyN at h
  split at h
  · rename_i i h1 h2; exact ⟨⟨_, h1, trivial⟩, i, h2, by simpa using h⟩
  · rename_i i h1 h2; exact ⟨⟨_, h1, trivial⟩, i, h2, by simpa using h⟩
  · split at h <;> simp at h
  · cases h

theorem run_isAgg_one {P : Program} {t : TypeId} (h : tyN P t = some none) (w : World) : (isAgg t).run P w = .ok false w := by
  obtain ⟨⟨d, hd, hn⟩, _⟩ := tyN_one h
  unfold isAgg
  simp only [Sem.run_bind, run_underlying hd, Result.andThen_ok]
  cases d <;> first | rfl | exact hn.elim
theorem run_isAgg_agg {P : Program} {t : TypeId} {n : Nat} (h : tyN P t = some (some n)) (w : World) : (isAgg t).run P w = .ok true w := by
  obtain ⟨⟨d, hd, hn⟩, _⟩ := tyN_agg h
  unfold isAgg
  simp only [Sem.run_bind, run_underlying hd, Result.andThen_ok]
  cases d <;> first | rfl | exact hn.elim
theorem run_sizeOf_info {P : Program} {t : TypeId} {i : TypeInfo} (h : P.info? t = some i) (w : World) : (sizeOf t).run P w = .ok i.size w := by
  simp [sizeOf, typeInfo, h]

theorem run_loadVar_one {P : Program} {t : TypeId} (h : tyN P t = some none) {w : World} {a : Addr} {c : Value} (hc : w.cell? a = some c) : (loadVar t a).run P w = .ok c w := by
  unfold loadVar
  simp [run_isAgg_one h, hc]
theorem run_loadVar_agg {P : Program} {t : TypeId} {n : Nat} (h : tyN P t = some (some n)) {w : World} {a : Addr} {f : Nat → Value} (hc : ∀ j, j < n → w.cell? (a.add j) = some (f j)) :
    (loadVar t a).run P w = .ok (.agg ((List.range n).map f).toArray) w := by
  obtain ⟨_, i, hi, rfl⟩ := tyN_agg h
  unfold loadVar
  simp [run_isAgg_agg h, run_sizeOf_info hi, run_loadCells w a i.size f hc]

theorem extract_range (vals : Array Value) (j n : Nat) (h : j + n ≤ vals.size) : vals.extract j (j + n) = ((List.range n).map fun q => vals.getD (j + q) undef).toArray := by
  apply Array.ext
  · simp; omega
  · intro q h1 h2
    simp only [List.size_toArray, List.length_map, List.length_range] at h2
    simp [Array.getD, show j + q < vals.size by omega]

def loadV (H : Boxes) (v : PV) (n : Option Nat) : Option PV :=
  match v with
  | .ref r j => match H[r]? with
    | some b => match n with
      | none => b.2[j]?
      | some n => if j + n ≤ b.2.length then some (.agg ((b.2.drop j).take n)) else none
    | none => none
  | _ => none

def ptrKind (ck : CK) (u : Nat) (n : Option Nat) : G :=
  match ck with
  | .own => .bal u (n.getD 0)
  | .sh => .sh
  | .fz => .fz
  | .fn => .fn

def elabLoadB (E : Env) (Γ : List G) (d : Nat) (T : TypeId) (u : Operand) : Option (COp × List G) :=
  match asPtr (kdO Γ u), tyN E.P T with
  | some (ck, _), some n =>
    if flatTy E.P T then some (.loadB d u n true, setG none false d .fl Γ)
    else match u with
      | .tmp t => if t = d ∨ n = some 0 ∨ (ck = .fn ∧ n ≠ none) then none else some (.loadB d u n false, setG none false d (ptrKind ck t n) Γ)
      | _ => none
  | _, _ => none

section
variable {X : Cx} {Γ : List G} {s : S} {L0 : Nat → Lab} {w0 : World} {K : KV} {o : Oper} {Q : Exit → Act → World → Prop} {d : Nat}

theorem R.aggGet {P : Program} {w : World} {m : M} {fp : Nat → Prop} {cs : List PV} {vals : Array Value} {j n : Nat} (hl : vals.size = cs.length) (hn : j + n ≤ cs.length) (lab : Nat → Nat)
    (h : ∀ q, j ≤ q → q < j + n → R P w m (part m fp lab none (q - j)) (cs.getD q .undef) (vals.getD q Go.undef)) : R P w m fp (.agg ((cs.drop j).take n)) (.agg (vals.extract j (j + n))) := by
  refine .agg lab (by simp; omega) fun q hq => ?_
  have hq' : q < n := by simp at hq; omega
  have e1 : ((cs.drop j).take n).getD q .undef = cs.getD (j + q) .undef := by simp [List.getD_eq_getElem?_getD, hq']
  have e2 : (vals.extract j (j + n)).getD q Go.undef = vals.getD (j + q) Go.undef := by
    simp only [Array.getD_eq_getD_getElem?, Array.getElem?_extract]
    rw [if_pos (by omega)]
  rw [e1, e2]
  have := h (j + q) (by omega) (by omega)
  rwa [show j + q - j = q by omega] at this

theorem loadB_core {E : Env} {T : TypeId} {u : Operand} {Γ' : List G} {n : Option Nat} {fl : Bool} {v : PV} (hE : E.P = X.P) (he : elabLoadB E Γ d T u = some (.loadB d u n fl, Γ')) (h : Sim X Γ s)
    (hv : loadV s.H (valO s.σ u) n = some v) (hfl : fl = true → v.isFlat = true) : ∃ c g ad, s.a.eval u = .pointer (some ad) ∧ (loadVar T ad).run X.P s.w = .ok c s.w ∧ Γ' = setG none false d g Γ ∧ (v = .undef ∨ Real X (s.put d v c) d v c g) := by
  -- the address
  have hu : valO s.σ u ≠ .undef := by intro hu; rw [hu] at hv; cases hv
  unfold elabLoadB at he
  split at he
  · rename_i ck mine n' hkd hty
    rw [hE] at hty
    obtain ⟨r, j, b, h1, h2, h3, h4, h5⟩ := (h.opnd' rfl hu).asPtr hkd
    obtain ⟨vals, e, g1, g2, g3, g4⟩ := h.box r b h3
    have hcell : ∀ q, q < b.2.length → s.w.cell? ⟨s.bm r, q, none⟩ = some (vals.getD q undef) := fun q hq => by
      rw [cell_of_row s.w _ _ _ _ _ g1, Array.getElem?_eq_getElem (by omega)]
      simp [Array.getD, show q < vals.size by omega]
    -- what is loaded
    have main : n' = n → ∃ c, (loadVar T ⟨s.bm r, j, none⟩).run X.P s.w = .ok c s.w ∧ (match n with | none => b.2[j]? = some v ∧ c = vals.getD j undef ∧ j < b.2.length | some n => j + n ≤ b.2.length ∧ v = .agg ((b.2.drop j).take n) ∧ c = .agg (vals.extract j (j + n))) := by
      rintro rfl
      rw [h1] at hv
      simp only [loadV, h3] at hv
      cases n' with
      | none =>
        simp only at hv
        have hj := (List.getElem?_eq_some_iff.1 hv).1
        exact ⟨_, run_loadVar_one hty (hcell j hj), hv, rfl, hj⟩
      | some n =>
        simp only at hv
        split at hv
        · rename_i hn
          injection hv with hv
          refine ⟨_, ?_, hn, hv.symm, rfl⟩
          have := run_loadVar_agg hty (w := s.w) (a := ⟨s.bm r, j, none⟩) (f := fun q => vals.getD (j + q) undef) (fun q hq => by rw [Addr.add_lit]; exact hcell (j + q) (by omega))
          rw [this, extract_range vals j n (by omega)]
        · cases hv
    have hjr : ∀ ck', X.view r b.1 = ck' → ∀ q, q < b.2.length → CellOk X s r q (b.2.getD q .undef) (vals.getD q undef) ck' := fun ck' hck q hq => by have := g4 q hq; rwa [hck] at this
    split at he
    · -- flat
      simp only [Option.some.injEq, Prod.mk.injEq, COp.loadB.injEq] at he
      obtain ⟨⟨_, _, hn, hf⟩, rfl⟩ := he
      obtain ⟨c, hrun, hc⟩ := main hn
      have hflat := hfl hf.symm
      refine ⟨c, _, _, h2, hrun, rfl, .inr ?_⟩
      show R X.P s.w .rep (fun _ => False) v c
      have one : ∀ q, q < b.2.length → (b.2.getD q .undef).isFlat = true → R X.P s.w .rep (fun _ => False) (b.2.getD q .undef) (vals.getD q undef) := by
        intro q hq hfq
        have := g4 q hq
        generalize hvw : X.view r b.1 = ck' at this
        cases ck' with
        | own => exact R.ofFlat this hfq
        | sh => exact R.ofFlat this hfq
        | fz => exact R.ofFlat this hfq
        | fn =>
          rcases this with hx | hx | ⟨g, caps, cs, hx, _⟩
          · rw [hx]; exact .unk
          · rw [hx.1, hx.2]; exact .flat rfl
          · rw [hx] at hfq; simp [PV.isFlat] at hfq
      cases n with
      | none =>
        obtain ⟨hb1, rfl, hj⟩ := hc
        have := one j hj (by rw [List.getD_eq_getElem?_getD, hb1]; exact hflat)
        rwa [List.getD_eq_getElem?_getD, hb1] at this
      | some n =>
        obtain ⟨hn', rfl, rfl⟩ := hc
        refine R.aggGet g3 hn' (fun _ => 0) fun q hq1 hq2 => one q (by omega) ?_
        simp only [PV.isFlat, List.all_eq_true] at hflat
        have := hflat (b.2.getD q .undef) (by
          rw [List.getD_eq_getElem?_getD, List.getElem?_eq_getElem (show q < b.2.length by omega), Option.getD_some]
          rw [List.mem_take_iff_getElem]
          refine ⟨q - j, by simp; omega, ?_⟩
          simp [show j + (q - j) = q by omega])
        generalize b.2.getD q .undef = x at this
        cases x <;> simp at this <;> rfl
    · split at he
      · rename_i t
        split at he
        · cases he
        · rename_i hno
          simp only [not_or] at hno
          simp only [Option.some.injEq, Prod.mk.injEq, COp.loadB.injEq] at he
          obtain ⟨⟨_, _, hn, hf⟩, rfl⟩ := he
          obtain ⟨c, hrun, hc⟩ := main hn
          subst hn
          refine ⟨c, _, _, h2, hrun, rfl, ?_⟩
          by_cases hvu : v = .undef
          · exact .inl hvu
          right
          cases ck with
          | own =>
            refine ⟨r, j, b, vals, e, (S.put_v_ne hno.1).trans h1, h3, h4, g1, ?_⟩
            cases n' with
            | none =>
              obtain ⟨hb1, rfl, hj⟩ := hc
              simp only [Option.getD_none, if_true]
              exact ⟨hb1, by simp [Array.getD, show j < vals.size by omega]⟩
            | some n =>
              simp only [Option.getD_some]
              rw [if_neg (by intro hz; exact hno.2.1 (by rw [hz]))]
              exact hc
          | sh =>
            show R X.P s.w .rep (s.fp (· = .sh)) v c
            cases n' with
            | none =>
              obtain ⟨hb1, rfl, hj⟩ := hc
              have := hjr _ h4 j hj
              rwa [List.getD_eq_getElem?_getD, hb1] at this
            | some n =>
              obtain ⟨hn', rfl, rfl⟩ := hc
              exact R.aggGet g3 hn' (fun _ => 0) fun q hq1 hq2 => hjr _ h4 q (by omega)
          | fz =>
            show R X.P s.w .full (s.fp (· = .nw)) v c
            cases n' with
            | none =>
              obtain ⟨hb1, rfl, hj⟩ := hc
              have := hjr _ h4 j hj
              rwa [List.getD_eq_getElem?_getD, hb1] at this
            | some n =>
              obtain ⟨hn', rfl, rfl⟩ := hc
              exact R.aggGet g3 hn' (fun _ => 0) fun q hq1 hq2 => hjr _ h4 q (by omega)
          | fn =>
            cases n' with
            | none =>
              obtain ⟨hb1, rfl, hj⟩ := hc
              have := hjr _ h4 j hj
              rw [List.getD_eq_getElem?_getD, hb1] at this
              rcases this with hx | hx
              · exact absurd hx hvu
              · exact hx
            | some n => exact absurd ⟨rfl, by simp⟩ hno.2.2
      · cases he
  · cases he

theorem loadB_sound {E : Env} {T : TypeId} {u : Operand} {cop : COp} {Γ' : List G} (hE : E.P = X.P) (he : elabLoadB E Γ d T u = some (cop, Γ')) (h : Sim X Γ s) (f : Fr X L0 w0 s.L s.w) (hd : d < Γ.length) (ho : o.dst = some d) (hop : o.op = .load T u)
    (hk : ∃ n fl, cop = .loadB d u n fl ∧ optK (loadV s.H (valO s.σ u) n) fun v => (fl = true → v.isFlat = true) ∧ K (s.σ.set d v) s.H) : o.wp X.P s.a s.w (Good X Γ' L0 w0 K) Q := by
  obtain ⟨n, fl, rfl, hk0⟩ := hk
  obtain ⟨v, hv, hfl, hk⟩ := hk0.get
  obtain ⟨c, g, ad, h2, hrun, rfl, hnew⟩ := loadB_core hE he h hv hfl
  refine good_set h f hd ho (c := c) ?_ hnew hk
  unfold execOp
  simp [hop, Instr.loadAt, Instr.sureAddr, h2, hrun]

end
end Go.Den
set_option autoImplicit false
namespace Go.Den

def ckTK : CK → Option TK
  | .own => some .own
  | .sh => some .sh
  | .fz => some .fz
  | .fn => none

def elabBox (E : Env) (Γ : List G) (d : Nat) (x : Operand) : Option (COp × List G) :=
  match kdO Γ x with
  | .fn => some (.box d .fn x .none, setG none false d (.ptr .fn true) Γ)
  | .dead | .ptr _ _ | .ea _ | .tup _ | .pm _ | .hole _ _ => none
  | .mo m => match E.hint d, eat .own Γ x with
    | none, some (Γ1, .slot _) => some (.boxm d x, setG none false d (.pm m) Γ1)
    | _, _ => none
  | g =>
    let ck := (E.hint d).getD (if g = .sh then .sh else if g = .fz then .fz else .own)
    match ckTK ck with
    | none => none
    | some m => match eat m Γ x with
      | some (Γ1, src) => some (.box d ck x src, setG none false d (.ptr ck true) Γ1)
      | none => none

def nilf1 : List PV → Bool
  | [.nilf] => true
  | _ => false
theorem nilf1_eq {zs : List PV} (h : nilf1 zs = true) : zs = [.nilf] := by
  unfold nilf1 at h
  split at h
  · rfl
  · cases h

def alCk (E : Env) (d : Nat) (T : TypeId) : CK := if isFuncTy E.P T then .fn else (E.hint d).getD .own

def elabAlloc (E : Env) (Γ : List G) (d : Nat) (T : TypeId) : Option (COp × List G) :=
  match (E.P.info? T).bind (·.zero) with
  | none => none
  | some z =>
    let zs := z.cells.toList.map ofValue
    if zs.all (fun v => match v with | .undef => false | _ => true) then
      if alCk E d T = .fn ∧ nilf1 zs = false then none else some (.alloc d (alCk E d T) zs, setG none false d (.ptr (alCk E d T) true) Γ)
    else none

def PV.isUndef : PV → Bool
  | .undef => true
  | _ => false
theorem PV.isUndef_iff {v : PV} : v.isUndef = true ↔ v = .undef := by cases v <;> simp [PV.isUndef]

section
variable {X : Cx} {Γ : List G} {s : S} {L0 : Nat → Lab} {w0 : World} {K : KV} {o : Oper} {Q : Exit → Act → World → Prop} {d : Nat}

theorem Fr.alloc {L L' : Nat → Lab} {w : World} (o : Obj) (hL : ∀ k, k < w.heap.size → keeps X (L k) → L' k = L k) : Fr X L w L' (w.alloc o) :=
  ⟨rfl, rfl, rfl, by rw [alloc_size]; omega, fun k hk hl => ⟨alloc_old _ _ hk, hL k hk hl⟩⟩

theorem box_sound {E : Env} {T : TypeId} {x : Operand} {cop : COp} {Γ' : List G} (he : elabBox E Γ d x = some (cop, Γ')) (h : Sim X Γ s) (f : Fr X L0 w0 s.L s.w) (hd : d < Γ.length) (ho : o.dst = some d) (hop : o.op = .box T x)
    (hk : (∃ ck src, cop = .box d ck x src ∧ valO s.σ x ≠ .undef ∧ K (s.σ.set d (.ref s.H.length 0)) (eatH s.σ s.H src ++ [(ck, (valO s.σ x).cells)])) ∨
      (∃ xs, cop = .boxm d x ∧ valO s.σ x = .agg xs ∧ K (s.σ.set d (.ref s.H.length 0)) (s.H ++ [(.own, xs)]))) : o.wp X.P s.a s.w (Good X Γ' L0 w0 K) Q := by
  have hrun : (execOp s.a.eval o).run X.P s.w = .ok (.value (.pointer (some ⟨s.w.heap.size, 0, none⟩))) (s.w.alloc (.cells (s.a.eval x).cells T)) := by
    unfold execOp
    simp [hop, Instr.box, newVar, newRow]
  -- with what is in hand
  have data : ∀ ck m Γ1 src, valO s.σ x ≠ .undef → K (s.σ.set d (.ref s.H.length 0)) (eatH s.σ s.H src ++ [(ck, (valO s.σ x).cells)]) → ckTK ck = some m → eat m Γ x = some (Γ1, src) →
      (∀ s' : S, Sim X (setG none false d (.ptr ck true) Γ1) s' → s'.v d = .ref s.H.length 0 → s'.w.heap[s'.bm s.H.length]? = some (.cells (s.a.eval x).cells T (0, 0)) → Sim X Γ' s') → o.wp X.P s.a s.w (Good X Γ' L0 w0 K) Q := by
    intro ck m Γ1 src hu hk hm hea fin
    obtain ⟨L1, hs1, ht, hf1, _⟩ := h.eat hea hu 0
    have hd1 : d < Γ1.length := by rw [hs1.lenG, ← h.lenG]; exact hd
    have hlen : (eatH s.σ s.H src).length = s.H.length := eatH_len
    let c := s.a.eval x
    let v := valO s.σ x
    -- the labels of what is in hand, cell by cell
    obtain ⟨lab, hsz, hcl⟩ : ∃ lab : Nat → Nat, c.cells.size = v.cells.length ∧ ∀ (s' : S) (L' : Nat → Lab), s'.L = L' → (∀ k, k < s.w.heap.size → s'.w.heap[k]? = s.w.heap[k]?) → (∀ k, k < s.w.heap.size → L1 k = .res 0 → L' k = .b s.H.length (lab k)) → (∀ k, k < s.w.heap.size → L1 k = .sh → L' k = .sh) →
        (∀ k, k < s.w.heap.size → L1 k = .nw → L' k = .nw) → ∀ j, j < v.cells.length → CellOk X s' s.H.length j (v.cells.getD j .undef) (c.cells.getD j undef) ck := by
      have lt : ∀ k l, L1 k = l → l ≠ .no → k < s.w.heap.size := fun k l hk hl => by
        rcases Nat.lt_or_ge k s.w.heap.size with h1 | h1
        · exact h1
        · exact absurd (hk ▸ hs1.top k h1) hl
      cases ck with
      | fn => cases hm
      | own =>
        simp only [ckTK, Option.some.injEq] at hm; subst hm
        obtain ⟨lab, hsz, hc⟩ := R.cells ht hu
        refine ⟨lab, hsz, fun s' L' e1 e2 e3 _ _ j hj => ?_⟩
        refine (R.frame (hc j hj) fun k hk => ?_).mono fun k hk => ?_
        · exact e2 k (lt k _ hk.1 (by simp))
        · show s'.L k = _
          rw [e1, e3 k (lt k _ hk.1 (by simp)) hk.1, hk.2.2]
      | sh =>
        simp only [ckTK, Option.some.injEq] at hm; subst hm
        obtain ⟨lab, hsz, hc⟩ := R.cells ht hu
        refine ⟨lab, hsz, fun s' L' e1 e2 _ e4 _ j hj => ?_⟩
        refine (R.frame (hc j hj) fun k hk => e2 k (lt k _ hk (by simp))).mono fun k hk => ?_
        show s'.L k = _
        rw [e1, e4 k (lt k _ hk (by simp)) hk]
      | fz =>
        simp only [ckTK, Option.some.injEq] at hm; subst hm
        obtain ⟨lab, hsz, hc⟩ := R.cells ht hu
        refine ⟨lab, hsz, fun s' L' e1 e2 _ _ e5 j hj => ?_⟩
        refine (R.frame (hc j hj) fun k hk => e2 k (lt k _ hk (by simp))).mono fun k hk => ?_
        show s'.L k = _
        rw [e1, e5 k (lt k _ hk (by simp)) hk]
    let L' : Nat → Lab := fun k => if k = s.w.heap.size then .bk s.H.length else if L1 k = .res 0 then .b s.H.length (lab k) else L1 k
    have hne : ∀ k, k < s.w.heap.size → k ≠ s.w.heap.size := fun k hk => Nat.ne_of_lt hk
    have hnew := hs1.newBox (d := d) (ck := ck) (cs := v.cells) (vals := c.cells) (e := T) (L' := L') hd1 hsz
      (fun k hk hj => by simp only [L']; rw [if_neg (hne k hk), if_neg (hj 0)])
      (by simp only [hlen]; exact if_pos rfl)
      (fun k hk => by
        have hk : s.w.heap.size < k := hk
        have hno : L1 k = .no := hs1.top k (Nat.le_of_lt hk)
        simp only [L']; rw [if_neg (by omega), if_neg (by rw [hno]; simp)]; exact hno)
      (fun s' hs' j hj => by
        subst hs'
        simp only [hlen]
        refine hcl _ L' rfl (fun k hk => alloc_old _ _ hk) (fun k hk h1 => ?_) (fun k hk h1 => ?_) (fun k hk h1 => ?_) j hj
        · simp only [L']; rw [if_neg (hne k hk), if_pos h1]
        · simp only [L']; rw [if_neg (hne k hk), if_neg (by rw [h1]; simp), h1]
        · simp only [L']; rw [if_neg (hne k hk), if_neg (by rw [h1]; simp), h1])
    refine op_value hrun ?_
    rw [ho]
    have hnew2 := fin _ hnew (by rw [S.put_v (by show d < s.σ.length; rw [← h.lenG]; exact hd)]; show PV.ref (eatH s.σ s.H src).length 0 = _; rw [hlen]) (by
      show (s.w.alloc (.cells c.cells T)).heap[if s.H.length = (eatH s.σ s.H src).length then s.w.heap.size else s.bm s.H.length]? = _
      rw [if_pos hlen.symm]
      exact heap_alloc_new s.w _)
    refine ⟨_, ?_, ?_, hnew2, ?_, ?_⟩
    · rfl
    · rfl
    · refine (f.trans hf1).trans (Fr.alloc _ fun k hk hl => ?_)
      show L' k = L1 k
      simp only [L']; rw [if_neg (hne k hk), if_neg (by intro hx; change keeps X (L1 k) at hl; rw [hx] at hl; exact hl)]
    · show K (s.σ.set d (.ref (eatH s.σ s.H src).length 0)) _
      rw [hlen]; exact hk
  unfold elabBox at he
  split at he
  · -- a function
    rename_i hkd
    simp only [Option.some.injEq, Prod.mk.injEq] at he
    obtain ⟨rfl, rfl⟩ := he
    replace hk : valO s.σ x ≠ .undef ∧ K (s.σ.set d (.ref s.H.length 0)) (s.H ++ [(.fn, (valO s.σ x).cells)]) := by
      rcases hk with ⟨ck, src, h1, h2⟩ | ⟨_, h1, _⟩
      · injection h1 with _ h1 _ h3; subst h1; subst h3; exact h2
      · cases h1
    obtain ⟨hu, hk⟩ := hk
    have hfn : FnOk s.bm s.H.length (valO s.σ x) (s.a.eval x) := h.opnd' hkd hu
    have hone : (valO s.σ x).cells = [valO s.σ x] ∧ (s.a.eval x).cells = #[s.a.eval x] := by
      rcases hfn with ⟨h1, h2⟩ | ⟨g, caps, cs, h1, h2, _⟩ <;> rw [h1, h2] <;> exact ⟨rfl, rfl⟩
    let L' : Nat → Lab := fun k => if k = s.w.heap.size then .bk s.H.length else s.L k
    have hnew := h.newBox (d := d) (ck := .fn) (cs := (valO s.σ x).cells) (vals := (s.a.eval x).cells) (e := T) (L' := L') hd (by rw [hone.1, hone.2]; rfl)
      (fun k hk hj => by simp only [L']; rw [if_neg (by omega)])
      (if_pos rfl)
      (fun k hk => by simp only [L']; rw [if_neg (by omega)]; exact h.top k (Nat.le_of_lt hk))
      (fun s' hs' j hj => by
        rw [hone.1] at hj ⊢
        rw [hone.2]
        obtain rfl : j = 0 := by simpa using hj
        subst hs'
        exact .inr (hfn.step (by simp) fun r hr => if_neg (by omega)))
    refine op_value hrun ?_
    rw [ho]
    refine ⟨_, ?_, ?_, hnew, ?_, hk⟩
    · rfl
    · rfl
    · refine f.trans (Fr.alloc _ fun k hk hl => ?_)
      show L' k = s.L k
      simp only [L']; rw [if_neg (by omega)]
  · cases he
  · cases he
  · cases he
  · cases he
  · cases he
  · cases he
  · -- a parameter that the caller sees again
    rename_i m hkd
    split at he
    · rename_i Γ1 y hh hea
      simp only [Option.some.injEq, Prod.mk.injEq] at he
      obtain ⟨rfl, rfl⟩ := he
      obtain ⟨xs, hxs, hk⟩ : ∃ xs, valO s.σ x = .agg xs ∧ K (s.σ.set d (.ref s.H.length 0)) (s.H ++ [(.own, xs)]) := by
        rcases hk with ⟨_, _, h1, _⟩ | ⟨xs, _, h2⟩
        · cases h1
        · exact ⟨xs, h2⟩
      have hreal := h.opnd' hkd (by rw [hxs]; simp)
      obtain ⟨hr, hc⟩ := hreal
      rw [hxs] at hr
      obtain ⟨cs, _, hcs, _, _⟩ := hr.agg_inv
      refine data .own .own Γ1 _ (by rw [hxs]; simp) (by rw [hxs]; exact hk) rfl hea fun s' hs' hv hh => ?_
      have hΓ : setG none false d (.pm m) Γ1 = (setG none false d (.ptr .own true) Γ1).set d (.pm m) := setG_set.symm
      rw [hΓ]
      have hd1 : d < (setG none false d (.ptr .own true) Γ1).length := by rw [hs'.lenG]; have := hs'.lenG; rw [setG_len] at this; rw [← this]; obtain ⟨L1, hs1, _⟩ := h.eat hea (by rw [hxs]; simp) 0; rw [hs1.lenG, ← h.lenG]; exact hd
      have hg : (setG none false d (.ptr .own true) Γ1)[d]? = some (.ptr .own true) := by
        rw [setG_len] at hd1
        unfold setG
        rw [List.getElem?_set_self (by simp [killD, touchG_eq]; exact hd1)]
      rcases hs'.slot d _ hg with hu | hp
      · rw [hv] at hu; cases hu
      · refine hs'.upgrade (.inr ?_)
        obtain ⟨r, j, b, p1, p2, p3, p4, p5, p6⟩ := hp
        rw [hv] at p1
        injection p1 with p1 p1'
        subst p1; subst p1'
        exact ⟨_, b, _, T, hv, p2, p3, p4, p5 rfl, hh, by rw [← hc, hcs]; rfl⟩
    · cases he
  · rename_i g hn1 hn2 hn3 hn4 hn5 hn6 hn7 hn8
    simp only at he
    split at he
    · cases he
    · rename_i m hm
      split at he
      · rename_i Γ1 src' hea
        simp only [Option.some.injEq, Prod.mk.injEq] at he
        obtain ⟨rfl, rfl⟩ := he
        rcases hk with ⟨ck, src, h1, h2, h3⟩ | ⟨_, h1, _⟩
        · injection h1 with _ h1 _ h4
          subst h4
          rw [h1] at hm
          exact data ck m Γ1 _ h2 h3 hm hea fun s' hs' _ _ => by rw [h1]; exact hs'
        · cases h1
      · cases he

theorem alloc_sound {E : Env} {T : TypeId} {cop : COp} {Γ' : List G} (hE : E.P = X.P) (he : elabAlloc E Γ d T = some (cop, Γ')) (h : Sim X Γ s) (f : Fr X L0 w0 s.L s.w) (hd : d < Γ.length) (ho : o.dst = some d) (hop : o.op = .alloc T)
    (hk : ∃ ck zs, cop = .alloc d ck zs ∧ K (s.σ.set d (.ref s.H.length 0)) (s.H ++ [(ck, zs)])) : o.wp X.P s.a s.w (Good X Γ' L0 w0 K) Q := by
  obtain ⟨ck, zs, rfl, hk⟩ := hk
  unfold elabAlloc at he
  split at he
  · cases he
  rename_i z hz
  rw [hE] at hz
  obtain ⟨i, hi, hzi⟩ := Option.bind_eq_some_iff.1 hz
  simp only at he
  split at he
  · rename_i hall
    split at he
    · cases he
    · rename_i hfn
      simp only [Option.some.injEq, Prod.mk.injEq, COp.alloc.injEq] at he
      obtain ⟨⟨_, hck, hzs⟩, rfl⟩ := he
      rw [hck] at hfn ⊢
      have hrun : (execOp s.a.eval o).run X.P s.w = .ok (.value (.pointer (some ⟨s.w.heap.size, 0, none⟩))) (s.w.alloc (.cells z.cells T)) := by
        unfold execOp
        simp [hop, Instr.alloc, zeroValue, typeInfo, hi, hzi, newVar, newRow]
      let L' : Nat → Lab := fun k => if k = s.w.heap.size then .bk s.H.length else s.L k
      have hnew := h.newBox (d := d) (ck := ck) (cs := zs) (vals := z.cells) (e := T) (L' := L') hd (by rw [← hzs]; simp)
        (fun k hk hj => by simp only [L']; rw [if_neg (by omega)])
        (if_pos rfl)
        (fun k hk => by simp only [L']; rw [if_neg (by omega)]; exact h.top k (Nat.le_of_lt hk))
        (fun s' hs' j hj => by
          have hjz : j < z.cells.size := by rw [← hzs] at hj; simpa using hj
          have e1 : zs.getD j .undef = ofValue (z.cells.getD j undef) := by
            rw [← hzs]; simp [List.getD_eq_getElem?_getD, Array.getD, hjz]
          rw [e1]
          have hflat : (ofValue (z.cells.getD j undef)).flat = some (z.cells.getD j undef) := by
            rcases ofValue_flat (z.cells.getD j undef) with h1 | h1
            · simp only [List.all_eq_true] at hall
              have := hall (ofValue (z.cells.getD j undef)) (by rw [hzs, ← e1, List.getD_eq_getElem?_getD, List.getElem?_eq_getElem hj]; exact List.getElem_mem hj)
              rw [h1] at this; cases this
            · exact h1
          cases ck with
          | own => exact .flat hflat
          | sh => exact .flat hflat
          | fz => exact .flat hflat
          | fn =>
            have hz1 : zs = [.nilf] := by
              have := hfn; simp only [true_and, Bool.not_eq_false] at this; rw [← hzs]; exact nilf1_eq this
            have hj0 : j = 0 := by rw [hz1] at hj; simpa using hj
            subst hj0
            rw [← e1, hz1]
            have : z.cells.getD 0 undef = .nilFunc := by
              have h2 : ofValue (z.cells.getD 0 undef) = .nilf := by rw [← e1, hz1]; rfl
              rw [h2] at hflat; simpa [PV.flat] using hflat.symm
            exact .inr (.inl ⟨rfl, this⟩))
      refine op_value hrun ?_
      rw [ho]
      refine ⟨_, ?_, ?_, hnew, ?_, hk⟩
      · rfl
      · rfl
      · refine f.trans (Fr.alloc _ fun k hk hl => ?_)
        show L' k = s.L k
        simp only [L']; rw [if_neg (by omega)]
  · cases he

end
end Go.Den
set_option autoImplicit false
namespace Go.Den

def PV.def1 : PV → Bool
  | .undef | .no | .agg _ | .tup _ => false
  | _ => true
def nOk : Option Nat → PV → Bool
  | none, .agg _ => false
  | none, _ => true
  | some n, .agg xs => xs.length == n
  | some _, _ => false
def storeV (H : Boxes) (u v : PV) (n : Option Nat) : Option Boxes :=
  match u with
  | .ref r j => match H[r]? with
    | some b => if nOk n v = true ∧ v.cells.all PV.def1 = true ∧ j + v.cells.length ≤ b.2.length then some (H.set r (b.1, putCells b.2 j v.cells)) else none
    | none => none
  | _ => none

def elabStoreB (E : Env) (Γ : List G) (T : TypeId) (u x : Operand) : Option (COp × List G) :=
  match kdO Γ u, tyN E.P T with
  | .ptr ck mine, some n =>
    if (ck == .sh || ck == .fn) && !mine then none
    else match ck with
      | .fn => if mine = true ∧ kdO Γ x = .fn then some (.storeB u x n .none, touchG none false Γ) else none
      | ck => match ckTK ck with
        | none => none
        | some m => match eat m Γ x with
          | some (Γ1, src) => some (.storeB u x n src, touchG none (ck == .own) Γ1)
          | none => none
  | _, _ => none

theorem R.oneCell {P : Program} {w : World} {m : M} {fp : Nat → Prop} {v : PV} {c : Value} (h : R P w m fp v c) (hv : v.def1 = true) : c.oneCell' = true := by
  cases h with
  | unk => cases hv
  | flat h => cases v <;> simp [PV.flat] at h <;> subst h <;> first | rfl | cases hv
  | agg => cases hv
  | row lab cs hsz hpos hrow hfp h => obtain ⟨ad, cap, rfl, _⟩ := hrow.rep; rfl
theorem FnOk.oneCell {bm : Nat → Nat} {n : Nat} {v : PV} {c : Value} (h : FnOk bm n v c) : c.oneCell' = true := by
  rcases h with ⟨_, rfl⟩ | ⟨g, caps, cs, _, rfl, _⟩ <;> rfl

/-- The value's cells are what the machine stores. -/
theorem run_storeVar {P : Program} {T : TypeId} {n : Option Nat} (hty : tyN P T = some n) {w : World} {b j e : Nat} {vals : Array Value} {c : Value} (hb : w.heap[b]? = some (.cells vals e (0, 0))) (hn : c.cells.size = n.getD 1) (hj : j + c.cells.size ≤ vals.size) (h1 : ∀ u ∈ c.cells.toList, u.oneCell' = true) :
    (storeVar T ⟨b, j, none⟩ c).run P w = .ok () (w.setRow b (vals.toList.take j ++ c.cells.toList ++ vals.toList.drop (j + c.cells.size)).toArray) := by
  have hs : (sizeOf T).run P w = .ok c.cells.size w := by
    cases n with
    | none => obtain ⟨_, i, hi, hsz⟩ := tyN_one hty; rw [run_sizeOf_info hi, hn, hsz]; rfl
    | some n => obtain ⟨_, i, hi, hsz⟩ := tyN_agg hty; rw [run_sizeOf_info hi, hn, hsz]; rfl
  have hst := run_storeCells_at P b j e c.cells.toList 0 vals w hb (by simpa using hj) h1
  unfold storeVar
  simp only [Sem.run_bind, hs, Result.andThen_ok, ne_eq, not_true, if_false, Nat.add_zero] at hst ⊢
  rw [hst]
  simp

section
variable {X : Cx} {Γ : List G} {s : S} {L0 : Nat → Lab} {w0 : World} {K : KV} {o : Oper} {Q : Exit → Act → World → Prop} {d : Nat}

theorem setRow_size (w : World) (g : Nat) (cs : Array Value) : (w.setRow g cs).heap.size = w.heap.size := by simp [World.setRow]

/-- A variable in memory is written. -/
theorem Sim.storeBox {ck : CK} {b : CK × List PV} {r j : Nat} {vals : Array Value} {e : Nat} {new : List PV} {news : List Value} {L' : Nat → Lab} (h : Sim X Γ s) (hb : s.H[r]? = some b) (hview : X.view r b.1 = ck) (hck : b.1 = ck)
    (hblk : s.w.heap[s.bm r]? = some (.cells vals e (0, 0))) (hj : j + new.length ≤ b.2.length) (hsz : news.length = new.length)
    (hL : ∀ k, (∀ i, s.L k ≠ .res i) → L' k = s.L k)
    (hc : ∀ (s' : S), s' = { s with H := s.H.set r (b.1, putCells b.2 j new), L := L', w := s.w.setRow (s.bm r) (vals.toList.take j ++ news ++ vals.toList.drop (j + news.length)).toArray } → ∀ q, q < new.length → CellOk X s' r (j + q) (new.getD q .undef) (news.getD q undef) ck) :
    Sim X (touchG none (ck == .own) Γ) { s with H := s.H.set r (b.1, putCells b.2 j new), L := L', w := s.w.setRow (s.bm r) (vals.toList.take j ++ news ++ vals.toList.drop (j + news.length)).toArray } := by
  obtain ⟨vals', e', g1, g2, g3, g4⟩ := h.box r b hb
  rw [hblk] at g1
  injection g1 with g1
  injection g1 with g1 _ _
  subst g1
  have hr := H_lt hb
  have hother : ∀ k, k ≠ s.bm r → (s.w.setRow (s.bm r) (vals.toList.take j ++ news ++ vals.toList.drop (j + news.length)).toArray).heap[k]? = s.w.heap[k]? := fun k hk => setRow_other _ _ _ _ hk
  have hlab : ∀ k, s.L k ≠ .bk r → (∀ i, s.L k ≠ .res i) → L' k = s.L k ∧ (s.w.setRow (s.bm r) (vals.toList.take j ++ news ++ vals.toList.drop (j + news.length)).toArray).heap[k]? = s.w.heap[k]? :=
    fun k hk hres => ⟨hL k hres, hother k (by rintro rfl; exact hk g2)⟩
  have hHlen : (s.H.set r (b.1, putCells b.2 j new)).length = s.H.length := by simp
  have hne : ∀ k, s.L k ≠ .bk r → k ≠ s.bm r := fun k hk hx => hk (by rw [hx]; exact g2)
  refine h.ghost (t := none) ⟨rfl, rfl, fun k hk _ => ?_, fun r' b' hb' => ?_⟩ (fun r' b' hb' => ?_) (fun k hk => ?_)
  · exact hlab k (fun hx => hk.2.2 (by rw [hx]; trivial)) (fun i hi => hk.2.2 (by rw [hi]; trivial))
  · by_cases hrr : r = r'
    · subst hrr
      rw [hb] at hb'; injection hb' with hb'; subst hb'
      refine ⟨(b.1, putCells b.2 j new), by simp [hr], rfl, rfl, fun hbxf hown => ?_⟩
      exfalso
      rw [← hck, hown] at hbxf
      simp at hbxf
    · refine ⟨b', by simp [List.getElem?_set_ne hrr, hb'], rfl, rfl, fun _ _ => ⟨rfl, ?_⟩⟩
      obtain ⟨_, _, _, q2, _⟩ := h.box r' b' hb'
      exact hother _ (hne _ (by rw [q2]; intro hx; injection hx with hx; exact hrr hx.symm))
  · change (s.H.set r (b.1, putCells b.2 j new))[r']? = some b' at hb'
    by_cases hrr : r = r'
    · subst hrr
      have hbe : b' = (b.1, putCells b.2 j new) := by
        rw [List.getElem?_set_self hr] at hb'; injection hb' with hb'; exact hb'.symm
      subst hbe
      have hsz' : j + news.length ≤ vals.size := by rw [g3, hsz]; exact hj
      refine ⟨_, e, setRow_heap s.w _ vals _ e (0, 0) hblk, ?_, ?_, fun q hq => ?_⟩
      · exact (hL _ (by rw [g2]; simp)).trans g2
      · rw [putCells_len _ _ _ hj]; simp; omega
      · rw [hview]
        rw [putCells_len _ _ _ hj] at hq
        have e1 : (putCells b.2 j new).getD q .undef = if j ≤ q ∧ q < j + new.length then new.getD (q - j) .undef else b.2.getD q .undef := by
          rw [putCells_eq _ _ _ hj, splice_get _ _ _ _ _ hj]
        have e2 : (vals.toList.take j ++ news ++ vals.toList.drop (j + news.length)).toArray.getD q undef = if j ≤ q ∧ q < j + news.length then news.getD (q - j) undef else vals.getD q undef := by
          have := splice_get vals.toList news j q undef (by simpa using hsz')
          have conv : ∀ l : List Value, l.toArray.getD q undef = l.getD q undef := fun l => by simp [Array.getD_eq_getD_getElem?, List.getD_eq_getElem?_getD]
          have conv' : vals.getD q undef = vals.toList.getD q undef := by simp [Array.getD_eq_getD_getElem?, List.getD_eq_getElem?_getD]
          rw [conv, this, conv']
        simp only
        rw [e1, e2]
        by_cases hin : j ≤ q ∧ q < j + new.length
        · rw [if_pos hin, if_pos ⟨hin.1, by omega⟩]
          have := hc _ rfl (q - j) (by omega)
          rwa [show j + (q - j) = q by omega] at this
        · rw [if_neg hin, if_neg (by omega)]
          have := g4 q hq
          rw [hview] at this
          refine this.step (fun k hk => ?_) (by simp [hHlen]) (fun _ _ => rfl)
          exact hlab k (by rcases hk with hk | hk | hk <;> rw [hk] <;> simp) (by rcases hk with hk | hk | hk <;> rw [hk] <;> simp)
    · rw [List.getElem?_set_ne hrr] at hb'
      obtain ⟨_, _, _, q2, _⟩ := h.box r' b' hb'
      refine BoxOk.step (h.box r' b' hb') (hlab _ (by rw [q2]; intro hx; injection hx with hx; exact hrr hx.symm) (by rw [q2]; simp)) (fun k hk => ?_) (H_lt hb') (by simp [hHlen]) (fun _ _ => rfl)
      exact hlab k (by rcases hk with ⟨j, hk⟩ | hk | hk <;> rw [hk] <;> simp) (by rcases hk with ⟨j, hk⟩ | hk | hk <;> rw [hk] <;> simp)
  · have hk' : s.w.heap.size ≤ k := by rw [← setRow_size s.w (s.bm r)]; exact hk
    have := h.top k hk'
    rw [← this]; exact hL k (by rw [this]; simp)

theorem storeB_sound {E : Env} {T : TypeId} {u x : Operand} {cop : COp} {Γ' : List G} (hE : E.P = X.P) (he : elabStoreB E Γ T u x = some (cop, Γ')) (h : Sim X Γ s) (f : Fr X L0 w0 s.L s.w) (ho : o.dst = none) (hop : o.op = .store T u x)
    (hk : ∃ n src, cop = .storeB u x n src ∧ valO s.σ x ≠ .undef ∧ ∃ H', storeV (eatH s.σ s.H src) (valO s.σ u) (valO s.σ x) n = some H' ∧ K s.σ H') : o.wp X.P s.a s.w (Good X Γ' L0 w0 K) Q := by
  obtain ⟨n, src, rfl, hx, H', hst, hk⟩ := hk
  have hu : valO s.σ u ≠ .undef := by intro hu; rw [hu] at hst; cases hst
  -- with the value in hand
  have main : ∀ (ck : CK) (mine : Bool) (Γ1 : List G) (L1 : Nat → Lab), kdO Γ u = .ptr ck mine → ((ck == .sh || ck == .fn) && !mine) = false → tyN E.P T = some n → Sim X Γ1 { s with L := L1, H := eatH s.σ s.H src } → Fr X s.L s.w L1 s.w →
      (∃ lab : Nat → Nat, (s.a.eval x).cells.size = (valO s.σ x).cells.length ∧ (∀ u ∈ (s.a.eval x).cells.toList, u.oneCell' = true) ∧ ∀ (s' : S) (r j : Nat), s'.bm = s.bm → s'.H.length = s.H.length → (∀ k, L1 k ≠ .bk r → s'.w.heap[k]? = s.w.heap[k]?) → (∀ k, L1 k = .res 0 → ck = .own → s'.L k = .b r (j + lab k)) → (∀ k, L1 k = .sh → s'.L k = .sh) → (∀ k, L1 k = .nw → s'.L k = .nw) →
        ∀ q, q < (valO s.σ x).cells.length → CellOk X s' r (j + q) ((valO s.σ x).cells.getD q .undef) ((s.a.eval x).cells.getD q undef) ck) →
      Γ' = touchG none (ck == .own) Γ1 → o.wp X.P s.a s.w (Good X Γ' L0 w0 K) Q := by
    rintro ck mine Γ1 L1 hkd hmine hty hs1 hf1 ⟨lab, hsz, hone, hcl⟩ rfl
    rw [hE] at hty
    obtain ⟨r, j, b0, h1, h2, h3, h4, h5⟩ := h.opnd' hkd hu
    obtain ⟨b, hb, hb1, hb2⟩ := eatH_get (σ := s.σ) (src := src) h3
    have hlim : X.lim ≤ r ∧ b0.1 = ck := by
      by_cases hm : mine = true
      · have := h5.1 hm
        have h0 : X.lim ≤ r := Nat.le_trans h.n0.1 this
        exact ⟨h0, by rw [← h4, view_new h0]⟩
      · have hck : ck ≠ .sh ∧ ck ≠ .fn := by revert hmine; cases ck <;> simp [hm]
        unfold Cx.view at h4
        split at h4
        · exact absurd h4.symm hck.1
        · rename_i hn
          refine ⟨?_, h4⟩
          have : b0.1 ≠ .fn := by rw [h4]; exact hck.2
          exact Nat.le_of_not_lt fun hlt => hn ⟨hlt, this⟩
    have hckeq := hlim.2
    rw [h1] at hst
    simp only [storeV, hb] at hst
    split at hst
    · rename_i hcond
      obtain ⟨hnok, hdef, hj⟩ := hcond
      injection hst with hst
      subst hst
      obtain ⟨vals, e, g1, g2, g3, g4⟩ := hs1.box r b hb
      have hn : (s.a.eval x).cells.size = n.getD 1 := by
        rw [hsz]
        cases n with
        | none => revert hnok; cases valO s.σ x <;> simp [nOk, PV.cells]
        | some n => revert hnok; cases valO s.σ x <;> simp [nOk, PV.cells]
      have hrun : (execOp s.a.eval o).run X.P s.w = .ok .skip (s.w.setRow (s.bm r) (vals.toList.take j ++ (s.a.eval x).cells.toList ++ vals.toList.drop (j + (s.a.eval x).cells.toList.length)).toArray) := by
        have := run_storeVar hty g1 (c := s.a.eval x) (j := j) hn (by rw [g3, hsz]; exact hj) hone
        unfold execOp
        simp only [hop, Instr.storeAt, Instr.sureAddr, h2, Sem.run_bind, Sem.run_pure, Result.andThen_ok]
        simp only [this, Result.andThen_ok, Array.length_toList]
      let L' : Nat → Lab := fun k => if ck = .own then (if L1 k = .res 0 then .b r (j + lab k) else L1 k) else L1 k
      have hL : ∀ k, L1 k ≠ .res 0 → L' k = L1 k := fun k hk => by
        show (if ck = .own then (if L1 k = .res 0 then Lab.b r (j + lab k) else L1 k) else L1 k) = L1 k
        rw [if_neg hk, ite_self]
      have hsim := hs1.storeBox (ck := ck) (L' := L') (j := j) (news := (s.a.eval x).cells.toList) hb (by rw [hb1]; exact h4) (by rw [hb1]; exact hckeq) g1 hj (by simpa using hsz) (fun k hk => hL k (hk 0))
        (fun s' hs' q hq => by
          subst hs'
          have := hcl { s with H := (eatH s.σ s.H src).set r (b.1, putCells b.2 j (valO s.σ x).cells), L := L', w := s.w.setRow (s.bm r) (vals.toList.take j ++ (s.a.eval x).cells.toList ++ vals.toList.drop (j + (s.a.eval x).cells.toList.length)).toArray } r j rfl (by simp [eatH_len])
            (fun k hk => setRow_other _ _ _ _ (fun hx => hk (by rw [hx]; exact g2))) (fun k hk1 hk2 => by simp only [L']; rw [if_pos hk2, if_pos hk1]) (fun k hk1 => (hL k (by rw [hk1]; simp)).trans hk1) (fun k hk1 => (hL k (by rw [hk1]; simp)).trans hk1) q hq
          have conv : (s.a.eval x).cells.toList.getD q undef = (s.a.eval x).cells.getD q undef := by simp [Array.getD_eq_getD_getElem?, List.getD_eq_getElem?_getD]
          rw [conv]; exact this)
      refine op_skip hrun ?_
      rw [ho]
      refine ⟨_, ?_, ?_, hsim, ?_, hk⟩
      · rfl
      · rfl
      · refine (f.trans hf1).trans ⟨rfl, rfl, rfl, by rw [setRow_size]; exact Nat.le_refl _, fun k hk hl => ⟨setRow_other _ _ _ _ ?_, hL k (by intro hx; rw [hx] at hl; exact hl)⟩⟩
        rintro rfl
        change L1 (s.bm r) = .bk r at g2
        rw [g2] at hl
        rcases hl with hl | ⟨p, hp, hk'⟩
        · exact absurd hl (by omega)
        · obtain ⟨b', q1, q2, _⟩ := h.n0.2 r p hp
          rw [h3] at q1; injection q1 with q1; subst q1
          rw [← q2, hckeq] at hk'
          by_cases hm : mine = true
          · have := h5.1 hm
            exact absurd (List.getElem?_eq_some_iff.1 hp).1 (by unfold Cx.n0 at this; omega)
          · revert hmine; rcases hk' with hk' | hk' <;> rw [hk'] <;> simp [hm]
    · cases hst
  unfold elabStoreB at he
  split at he
  · rename_i ck mine n' hkd hty
    split at he
    · cases he
    rename_i hmine
    have hmine' : ((ck == .sh || ck == .fn) && !mine) = false := by simpa using hmine
    split at he
    · -- a function
      split at he
      · rename_i hc
        simp only [Option.some.injEq, Prod.mk.injEq, COp.storeB.injEq] at he
        obtain ⟨⟨_, _, rfl, rfl⟩, rfl⟩ := he
        have hfn : FnOk s.bm s.H.length (valO s.σ x) (s.a.eval x) := h.opnd' hc.2 hx
        have hcells : (valO s.σ x).cells = [valO s.σ x] ∧ (s.a.eval x).cells = #[s.a.eval x] := by
          rcases hfn with ⟨h1, h2⟩ | ⟨g, caps, cs, h1, h2, _⟩ <;> rw [h1, h2] <;> exact ⟨rfl, rfl⟩
        refine main .fn mine Γ s.L hkd hmine' hty h (Fr.refl _ _ _) ⟨fun _ => 0, by rw [hcells.1, hcells.2]; rfl, fun u hu => ?_, fun s' r j e1 e2 _ _ _ _ q hq => ?_⟩ rfl
        · rw [hcells.2] at hu; simp at hu; subst hu; exact hfn.oneCell
        · rw [hcells.1] at hq ⊢; rw [hcells.2]
          obtain rfl : q = 0 := by simpa using hq
          exact .inr (hfn.step (by omega) (fun r _ => by rw [e1]))
      · cases he
    · rename_i hnfn
      split at he
      · cases he
      · rename_i m hm
        split at he
        · rename_i Γ1 src' hea
          simp only [Option.some.injEq, Prod.mk.injEq, COp.storeB.injEq] at he
          obtain ⟨⟨_, _, rfl, rfl⟩, rfl⟩ := he
          obtain ⟨L1, hs1, ht, hf1, _⟩ := h.eat hea hx 0
          have hdef : (valO s.σ x).cells.all PV.def1 = true := by
            obtain ⟨r, j, b0, h1, _⟩ := h.opnd' hkd hu
            rw [h1] at hst
            simp only [storeV] at hst
            split at hst
            · split at hst
              · rename_i hc; exact hc.2.1
              · cases hst
            · cases hst
          have cellsOne : ∀ {m' : M} {fp : Nat → Prop} {lab : Nat → Nat}, (s.a.eval x).cells.size = (valO s.σ x).cells.length → (∀ j, j < (valO s.σ x).cells.length → R X.P s.w m' (part m' fp lab none j) ((valO s.σ x).cells.getD j .undef) ((s.a.eval x).cells.getD j undef)) → ∀ u ∈ (s.a.eval x).cells.toList, u.oneCell' = true := by
            intro m' fp lab hsz hc u hu
            obtain ⟨q, hq, rfl⟩ := List.getElem_of_mem hu
            have hq' : q < (valO s.σ x).cells.length := by simpa [← hsz] using hq
            have := (hc q hq').oneCell (by
              simp only [List.all_eq_true] at hdef
              exact hdef _ (by rw [List.getD_eq_getElem?_getD, List.getElem?_eq_getElem hq', Option.getD_some]; exact List.getElem_mem hq'))
            simpa [Array.getD, show q < (s.a.eval x).cells.size by omega] using this
          refine main ck mine Γ1 L1 hkd hmine' hty hs1 hf1 ?_ rfl
          cases ck with
          | fn => cases hm
          | own =>
            simp only [ckTK, Option.some.injEq] at hm; subst hm
            obtain ⟨lab, hsz, hc⟩ := R.cells ht hx
            refine ⟨lab, hsz, cellsOne hsz hc, fun s' r j _ _ e2 e3 _ _ q hq => ?_⟩
            refine (R.frame (hc q hq) fun k hk => e2 k (by have := hk.1; change L1 k = .res 0 at this; rw [this]; simp)).mono fun k hk => ?_
            show s'.L k = _
            rw [e3 k hk.1 rfl, hk.2.2]
          | sh =>
            simp only [ckTK, Option.some.injEq] at hm; subst hm
            obtain ⟨lab, hsz, hc⟩ := R.cells ht hx
            refine ⟨lab, hsz, cellsOne hsz hc, fun s' r j _ _ e2 _ e4 _ q hq => ?_⟩
            exact (R.frame (hc q hq) fun k hk => e2 k (by change L1 k = .sh at hk; rw [hk]; simp)).mono fun k hk => e4 k hk
          | fz =>
            simp only [ckTK, Option.some.injEq] at hm; subst hm
            obtain ⟨lab, hsz, hc⟩ := R.cells ht hx
            refine ⟨lab, hsz, cellsOne hsz hc, fun s' r j _ _ e2 _ _ e5 q hq => ?_⟩
            exact (R.frame (hc q hq) fun k hk => e2 k (by change L1 k = .nw at hk; rw [hk]; simp)).mono fun k hk => e5 k hk
        · cases he
  · cases he
end
end Go.Den
set_option autoImplicit false
namespace Go.Den

def fieldOff (P : Program) (S : TypeId) (fi : Nat) : Option Nat :=
  match P.underlying S with
  | some (.struct fs) => match fs[fi]? with
    | some f => match P.info? f.type with
      | some i => if i.size = 0 then none else some f.offset
      | none => none
    | none => none
  | _ => none
def faddV (u : PV) (off : Nat) : Option PV :=
  match u with
  | .ref r j => some (.ref r (j + off))
  | .eix i j => some (.eix i (j + off))
  | _ => none
def elabFadd (E : Env) (Γ : List G) (d : Nat) (S : TypeId) (u : Operand) (fi : Nat) : Option (COp × List G) :=
  match fieldOff E.P S fi with
  | none => none
  | some off => match asPtr (kdO Γ u) with
    | some (ck, m) => some (.fadd d u off, setG none false d (.ptr ck m) Γ)
    | none => match kdO Γ u with
      | .ea t => if t = d then none else some (.fadd d u off, setG none false d (.ea t) Γ)
      | _ => none

def iaddV (e : Nat) (t i : PV) : Option PV :=
  match t, i with
  | .sl e' xs, .int _ n => if e' = e ∧ 0 ≤ n ∧ n.toNat < xs.length then some (.eix n.toNat 0) else none
  | _, _ => none
def elabIadd (E : Env) (Γ : List G) (d : Nat) (T : TypeId) (x i : Operand) : Option (COp × List G) :=
  match x, E.P.underlying T with
  | .tmp t, some (.slice e) => if t ≠ d ∧ ((kdO Γ x).data t).isSome = true ∧ kdO Γ i = .fl ∧ (E.P.info? e).isSome = true then some (.iadd d t e i, setG none false d (.ea t) Γ) else none
  | _, _ => none

def cellV (cs : List PV) (j : Nat) (n : Option Nat) : Option PV :=
  match n with
  | none => cs[j]?
  | some n => if j + n ≤ cs.length then some (.agg ((cs.drop j).take n)) else none
def elemV (t u : PV) (n : Option Nat) : Option PV :=
  match t, u with
  | .sl _ xs, .eix i j => match xs[i]? with
    | some x => cellV x.cells j n
    | none => none
  | _, _ => none
/-- What an element leads to. -/
def inKind : G → Nat → Option G
  | .own, t => some (.rd t)
  | .al x, _ => some (.rd x)
  | .rd x, _ => some (.rd x)
  | .sh, _ => some .sh
  | .fz, _ => some .fz
  | .rn, _ => some .rn
  | .bal _ _, _ => some .brd
  | .brd, _ => some .brd
  | .fl, _ => some .fl
  | .mo _, t => some (.rd t)
  | .eal x _, _ => some (.rd x)
  | _, _ => none
/-- The row's slot, if it is known. -/
def elemRoot (Γ : List G) (t : Nat) : Option Nat :=
  match Γ.getD t .dead with
  | .own => some t
  | .mo _ => some t
  | .al x => some x
  | _ => none
def elabLoadE (E : Env) (Γ : List G) (d : Nat) (T : TypeId) (x : Operand) : Option (COp × List G) :=
  match x, kdO Γ x, tyN E.P T with
  | .tmp u, .ea t, some n =>
    if flatTy E.P T then (if ((Γ.getD t .dead).data t).isSome then some (.loadE d t u n true, setG none false d .fl Γ) else none)
    else if E.hint d = some .own then
      match elemRoot Γ t with
      | some y => if y = d ∨ u = d ∨ n ≠ none then none else some (.loadE d t u n false, setG none false d (.eal y u) Γ)
      | none => none
    else match inKind (Γ.getD t .dead) t with
      | some (.rd y) => if y = d then none else some (.loadE d t u n false, setG none false d (.rd y) Γ)
      | some g => some (.loadE d t u n false, setG none false d g Γ)
      | none => none
  | _, _, _ => none

section
variable {X : Cx} {Γ : List G} {s : S} {L0 : Nat → Lab} {w0 : World} {K : KV} {o : Oper} {Q : Exit → Act → World → Prop} {d : Nat}

theorem nilCheck_sound {u : Operand} {ck : CK} {m : Bool} (h : Sim X Γ s) (f : Fr X L0 w0 s.L s.w) (hd : d < Γ.length) (ho : o.dst = some d) (hop : o.op = .nilCheck u) (hkd : kdO Γ u = .ptr ck m)
    (hu : valO s.σ u ≠ .undef) (hk : K (s.σ.set d (valO s.σ u)) s.H) : o.wp X.P s.a s.w (Good X (setG none false d (.ptr ck m) Γ) L0 w0 K) Q := by
  have hp := h.opnd' hkd hu
  have hp' := hp
  obtain ⟨r, j, b, h1, h2, h3⟩ := hp
  refine good_set h f hd ho (c := s.a.eval u) ?_ (.inr hp') hk
  unfold execOp
  simp [hop, h2]

theorem fieldOff_run {P : Program} {S : TypeId} {fi off : Nat} (h : fieldOff P S fi = some off) (a : Addr) (w : World) : (Instr.fieldAt S (.pointer (some a)) fi).run P w = .ok (.pointer (some (a.add off))) w := by
  unfold fieldOff at h
  split at h
  · rename_i fs hfs
    split at h
    · rename_i f hf
      split at h
      · rename_i i hi
        split at h
        · cases h
        · rename_i hz
          injection h with h
          subst h
          unfold Instr.fieldAt
          simp [run_underlying hfs, hf, Instr.sureAddr, fieldPlace, run_sizeOf_info hi, hz]
      · cases h
    · cases h
  · cases h

theorem fadd_sound {E : Env} {St : TypeId} {u : Operand} {fi : Nat} {cop : COp} {Γ' : List G} (hE : E.P = X.P) (he : elabFadd E Γ d St u fi = some (cop, Γ')) (h : Sim X Γ s) (f : Fr X L0 w0 s.L s.w) (hd : d < Γ.length) (ho : o.dst = some d) (hop : o.op = .fieldAddr St u fi)
    (hk : ∃ off, cop = .fadd d u off ∧ optK (faddV (valO s.σ u) off) fun v => K (s.σ.set d v) s.H) : o.wp X.P s.a s.w (Good X Γ' L0 w0 K) Q := by
  obtain ⟨off, rfl, hk0⟩ := hk
  obtain ⟨v, hv, hk⟩ := hk0.get
  have hu : valO s.σ u ≠ .undef := by intro hu; rw [hu] at hv; cases hv
  unfold elabFadd at he
  split at he
  · cases he
  · rename_i off' hoff
    rw [hE] at hoff
    split at he
    · rename_i ck m hkd
      simp only [Option.some.injEq, Prod.mk.injEq, COp.fadd.injEq] at he
      obtain ⟨⟨_, _, rfl⟩, rfl⟩ := he
      obtain ⟨r, j, b, h1, h2, h3, h4, h5⟩ := (h.opnd' rfl hu).asPtr hkd
      rw [h1] at hv
      simp only [faddV, Option.some.injEq] at hv
      subst hv
      refine good_set h f hd ho (c := .pointer (some ⟨s.bm r, j + off', none⟩)) ?_ (.inr ⟨r, j + off', b, rfl, rfl, h3, h4, h5⟩) hk
      unfold execOp
      simp [hop, h2, fieldOff_run hoff, Addr.add_lit]
    · split at he
      · rename_i t hkd
        split at he
        · cases he
        · rename_i hne
          simp only [Option.some.injEq, Prod.mk.injEq, COp.fadd.injEq] at he
          obtain ⟨⟨_, _, rfl⟩, rfl⟩ := he
          obtain ⟨i, j, e, xs, ad, cap, h1, h2, h3, h4, h5⟩ := h.opnd' hkd hu
          rw [h1] at hv
          simp only [faddV, Option.some.injEq] at hv
          subst hv
          refine good_set h f hd ho (c := .pointer (some (ad.add (i * X.P.cellsOf e + (j + off'))))) ?_ (.inr ⟨i, j + off', e, xs, ad, cap, rfl, (S.put_v_ne hne).trans h2, h3, (S.put_c_ne hne).trans h4, rfl⟩) hk
          unfold execOp
          simp [hop, h5, fieldOff_run hoff, add_add, Nat.add_assoc]
      · cases he

theorem iadd_sound {E : Env} {T : TypeId} {x i : Operand} {cop : COp} {Γ' : List G} (hE : E.P = X.P) (he : elabIadd E Γ d T x i = some (cop, Γ')) (h : Sim X Γ s) (f : Fr X L0 w0 s.L s.w) (hd : d < Γ.length) (ho : o.dst = some d) (hop : o.op = .indexAddr T x i)
    (hk : ∃ t e, cop = .iadd d t e i ∧ optK (iaddV e (s.σ.getD t .undef) (valO s.σ i)) fun v => K (s.σ.set d v) s.H) : o.wp X.P s.a s.w (Good X Γ' L0 w0 K) Q := by
  obtain ⟨t, e, rfl, hk0⟩ := hk
  obtain ⟨v, hv, hk⟩ := hk0.get
  unfold elabIadd at he
  split at he
  · rename_i t' e' hT
    rw [hE] at hT
    split at he
    · rename_i hc
      simp only [Option.some.injEq, Prod.mk.injEq, COp.iadd.injEq] at he
      obtain ⟨⟨_, rfl, rfl, _⟩, rfl⟩ := he
      obtain ⟨hne, hdat, hi, hinf⟩ := hc
      obtain ⟨p, hp⟩ := Option.isSome_iff_exists.1 hdat
      rw [hE] at hinf
      obtain ⟨inf, hinf⟩ := Option.isSome_iff_exists.1 hinf
      unfold iaddV at hv
      split at hv
      · rename_i e2 xs k n e1 e3
        split at hv
        · rename_i hcond
          obtain ⟨rfl, hn0, hn1⟩ := hcond
          injection hv with hv
          subst hv
          have h1 := data_of (x := .tmp t') h hp e1 (by simp)
          have h2 := (fl_of h hi e3 (by simp)).int_inv
          obtain ⟨ad, cap, hc, _, _⟩ := h1.sl_inv
          have hsz : inf.size = X.P.cellsOf e2 := by unfold Program.cellsOf; rw [hinf]; rfl
          refine good_set h f hd ho (c := .pointer (some (ad.add (n.toNat * X.P.cellsOf e2 + 0)))) ?_ (.inr ⟨n.toNat, 0, e2, xs, ad, cap, rfl, (S.put_v_ne hne).trans e1, hn1, (S.put_c_ne hne).trans hc, rfl⟩) hk
          unfold execOp
          have hlt : n < (xs.length : Int) := by omega
          simp [hop, Instr.indexAt, h2, asIntOf, run_underlying hT, hc, hn0, hlt, run_sizeOf_info hinf, hsz]
        · cases hv
      · cases hv
    · cases he
  · cases he

theorem inKind_data {g g' : G} {t i : Nat} {p : Lab → Prop} (hp : g.data t = some p) (hi : inKind g t = some g') : ∃ p', g'.data i = some p' ∧ (∀ l, p l → p' l) ∧ (∀ q, g' ≠ .own ∧ g' ≠ .tup q) ∧ (g' ≠ .dead) := by
  cases g <;> simp only [inKind, Option.some.injEq, reduceCtorEq] at hi <;> subst hi <;> simp only [G.data, Option.some.injEq] at hp <;> subst hp <;>
    exact ⟨_, rfl, fun l hl => hl, fun q => ⟨by simp, by simp⟩, by simp⟩

theorem loadE_sound {E : Env} {T : TypeId} {x : Operand} {cop : COp} {Γ' : List G} (hE : E.P = X.P) (he : elabLoadE E Γ d T x = some (cop, Γ')) (h : Sim X Γ s) (f : Fr X L0 w0 s.L s.w) (hd : d < Γ.length) (ho : o.dst = some d) (hop : o.op = .load T x)
    (hk : ∃ t u n fl, cop = .loadE d t u n fl ∧ optK (elemV (s.σ.getD t .undef) (s.σ.getD u .undef) n) fun v => (fl = true → v.isFlat = true) ∧ K (s.σ.set d v) s.H) : o.wp X.P s.a s.w (Good X Γ' L0 w0 K) Q := by
  obtain ⟨t, u, n, fl, rfl, hk0⟩ := hk
  obtain ⟨v, hv, hfl, hk⟩ := hk0.get
  clear hk0
  unfold elabLoadE at he
  split at he
  · rename_i u' t' n' hty hkd
    rw [hE] at hty
    -- what is read, in the kind of the row
    have main : t' = t → u' = u → n' = n → ∀ p m (g : G), Γ.getD t .dead = g → (R X.P s.w m (s.fp p) (s.v t) (s.c t)) → ∃ c, (execOp s.a.eval o).run X.P s.w = .ok (.value c) s.w ∧ R X.P s.w .rep (s.fp p) v c ∧ (m = .full → R X.P s.w .full (s.fp p) v c) := by
      rintro rfl rfl rfl p m g _ hr
      have huv : s.v u' ≠ .undef := by intro hx; unfold elemV at hv; rw [show s.σ.getD u' .undef = .undef from hx] at hv; split at hv <;> first | cases hv | (rename_i hh; cases hh)
      obtain ⟨i, j, e, xs, ad, cap, h1, h2, h3, h4, h5⟩ := h.opnd' hkd (by exact huv)
      simp only [valO, Act.eval] at h1 h5
      rw [h2] at hr
      unfold elemV at hv
      rw [show s.σ.getD t' .undef = .sl e xs from h2, h1] at hv
      simp only [List.getElem?_eq_getElem h3] at hv
      have hxi : xs[i]? = some xs[i] := List.getElem?_eq_getElem h3
      have cellAt : ∀ q, q < xs[i].cells.length → ∃ u, s.w.cell? (ad.add (i * X.P.cellsOf e + q)) = some u ∧ R X.P s.w m (s.fp p) (xs[i].cells.getD q .undef) u := fun q hq => by
        obtain ⟨ad', cap', u, g1, g2, g3⟩ := hr.elem hxi hq
        change s.c t' = _ at g1
        rw [h4] at g1
        injection g1 with g1 _ _
        injection g1 with g1
        subst g1
        exact ⟨u, g2, g3⟩
      have wk : ∀ {v c}, R X.P s.w m (s.fp p) v c → R X.P s.w .rep (s.fp p) v c ∧ (m = .full → R X.P s.w .full (s.fp p) v c) := fun hh => ⟨hh.rep, fun hm => by subst hm; exact hh⟩
      cases n' with
      | none =>
        simp only [cellV] at hv
        have hj := (List.getElem?_eq_some_iff.1 hv).1
        obtain ⟨c, g2, g3⟩ := cellAt j hj
        have : xs[i].cells.getD j .undef = v := by rw [List.getD_eq_getElem?_getD, hv]; rfl
        rw [this] at g3
        refine ⟨c, ?_, wk g3⟩
        unfold execOp
        simp only [hop, Instr.loadAt, Instr.sureAddr]
        rw [show s.a.eval (.tmp u') = .pointer (some (ad.add (i * X.P.cellsOf e + j))) from h5]
        simp [run_loadVar_one hty g2]
      | some n =>
        simp only [cellV] at hv
        split at hv
        · rename_i hn
          injection hv with hv
          subst hv
          have hcells : ∀ q, ∃ u, q < n → s.w.cell? (ad.add (i * X.P.cellsOf e + (j + q))) = some u ∧ R X.P s.w m (s.fp p) (xs[i].cells.getD (j + q) .undef) u := fun q => by
            by_cases hq : q < n
            · obtain ⟨u, hu⟩ := cellAt (j + q) (by omega); exact ⟨u, fun _ => hu⟩
            · exact ⟨undef, fun hh => absurd hh hq⟩
          have hch := fun q => Classical.choose_spec (hcells q)
          generalize hF : (fun q => Classical.choose (hcells q)) = F at *
          have hF' : ∀ q, q < n → s.w.cell? (ad.add (i * X.P.cellsOf e + (j + q))) = some (F q) ∧ R X.P s.w m (s.fp p) (xs[i].cells.getD (j + q) .undef) (F q) := fun q hq => by rw [← hF]; exact hch q hq
          have hagg : ∀ m', (∀ q, q < n → R X.P s.w m' (s.fp p) (xs[i].cells.getD (j + q) .undef) (F q)) → m' ≠ .own → R X.P s.w m' (s.fp p) (.agg ((xs[i].cells.drop j).take n)) (.agg ((List.range n).map F).toArray) := by
            intro m' hR hm'
            refine .agg (fun _ => 0) (by simp; omega) fun q hq => ?_
            have hq' : q < n := by simp at hq; omega
            have e1 : ((xs[i].cells.drop j).take n).getD q .undef = xs[i].cells.getD (j + q) .undef := by simp [List.getD_eq_getElem?_getD, hq']
            have e2 : ((List.range n).map F).toArray.getD q undef = F q := by simp [Array.getD, hq']
            rw [e1, e2]
            cases m' with
            | own => exact absurd rfl hm'
            | full => exact hR q hq'
            | rep => exact hR q hq'
          refine ⟨.agg ((List.range n).map F).toArray, ?_, hagg .rep (fun q hq => (hF' q hq).2.rep) (by simp), fun hm => hagg .full (fun q hq => by have := (hF' q hq).2; rwa [hm] at this) (by simp)⟩
          unfold execOp
          simp only [hop, Instr.loadAt, Instr.sureAddr]
          rw [show s.a.eval (.tmp u') = .pointer (some (ad.add (i * X.P.cellsOf e + j))) from h5]
          have := run_loadVar_agg hty (w := s.w) (a := ad.add (i * X.P.cellsOf e + j)) (f := F) (fun q hq => by rw [add_add, Nat.add_assoc]; exact (hF' q hq).1)
          simp [this]
        · cases hv
    have htu : valO s.σ (.tmp t') = s.v t' := rfl
    have hsl : t' = t → s.v t' ≠ .undef := by
      rintro rfl hx
      unfold elemV at hv
      rw [show s.σ.getD t' .undef = .undef from hx] at hv
      cases hv
    split at he
    · split at he
      · rename_i hdat
        obtain ⟨p, hp⟩ := Option.isSome_iff_exists.1 hdat
        simp only [Option.some.injEq, Prod.mk.injEq, COp.loadE.injEq] at he
        obtain ⟨⟨_, rfl, rfl, rfl, hf⟩, rfl⟩ := he
        obtain ⟨c, hrun, hr, _⟩ := main rfl rfl rfl p .rep _ rfl (data_of (x := .tmp t') h hp rfl (hsl rfl))
        exact good_set h f hd ho hrun (.inr (hr.ofFlat (hfl hf.symm))) hk
      · cases he
    · split at he
      · -- an element by another name
        split at he
        · rename_i y hroot
          split at he
          · cases he
          · rename_i hne
            simp only [Option.some.injEq, Prod.mk.injEq, COp.loadE.injEq] at he
            obtain ⟨⟨_, rfl, rfl, rfl, _⟩, rfl⟩ := he
            obtain ⟨hn1, hn2, hn3⟩ : y ≠ d ∧ u' ≠ d ∧ n' = none := ⟨fun h => hne (.inl h), fun h => hne (.inr (.inl h)), by
              cases n' with
              | none => rfl
              | some n => exact absurd (.inr (.inr (by simp))) hne⟩
            subst hn3
            have hreal := h.opnd' (o := .tmp t') rfl (hsl rfl)
            change Real X s t' (s.v t') (s.c t') (Γ.getD t' .dead) at hreal
            obtain ⟨hr, hvy, hcy⟩ : R X.P s.w .own (s.fp (· = .s y)) (s.v t') (s.c t') ∧ s.v t' = s.v y ∧ s.c t' = s.c y := by
              unfold elemRoot at hroot
              generalize Γ.getD t' .dead = gt at hroot hreal
              cases gt <;> simp only [Option.some.injEq, reduceCtorEq] at hroot
              · subst hroot; exact ⟨hreal, rfl, rfl⟩
              · subst hroot; exact hreal
              · subst hroot; exact ⟨hreal.1, rfl, rfl⟩
            have huv : s.v u' ≠ .undef := by intro hx; unfold elemV at hv; rw [show s.σ.getD u' .undef = .undef from hx] at hv; split at hv <;> first | cases hv | (rename_i hh; cases hh)
            obtain ⟨q, j, e, xs, ad, cap, h1, h2, h3, h4, h5⟩ := h.opnd' hkd (by exact huv)
            simp only [valO, Act.eval] at h1 h5
            unfold elemV at hv
            rw [show s.σ.getD t' .undef = .sl e xs from h2, h1] at hv
            simp only [List.getElem?_eq_getElem h3, cellV] at hv
            have hxi : xs[q]? = some xs[q] := List.getElem?_eq_getElem h3
            rw [h2] at hr
            have hjl := (List.getElem?_eq_some_iff.1 hv).1
            obtain ⟨own, g, cap', c, g1, g2, g3, g4, g5, g6, _⟩ := hr.takeCell hxi hv
            rw [h4] at g1
            injection g1 with g1 _ _
            injection g1 with g1
            subst g1
            refine good_set h f hd ho (c := c) ?_ (.inr ?_) hk
            · unfold execOp
              simp only [hop, Instr.loadAt, Instr.sureAddr]
              rw [show s.a.eval (.tmp u') = .pointer (some ((⟨g, 0, none⟩ : Addr).add (q * X.P.cellsOf e + j))) from h5]
              simp [run_loadVar_one hty g4]
            · refine ⟨q, j, e, xs, _, _, cap, ?_, ?_, hxi, hv, ?_, g4, g2, ?_⟩
              · rw [S.put_v_ne hn2]; exact h1
              · rw [S.put_v_ne hn1, ← hvy]; exact h2
              · rw [S.put_c_ne hn1, ← hcy]; exact h4
              · exact (g6.rep).mono fun k hk => g5 k hk
        · cases he
      -- an element that leads on
      have inner : ∀ g, t' = t → u' = u → n' = n → inKind (Γ.getD t' .dead) t' = some g → (∀ y, g = .rd y → y ≠ d) → Γ' = setG none false d g Γ → o.wp X.P s.a s.w (Good X Γ' L0 w0 K) Q := by
        rintro g rfl rfl rfl hin hne rfl
        have hreal := h.opnd' (o := .tmp t') rfl (hsl rfl)
        change Real X s t' (s.v t') (s.c t') (Γ.getD t' .dead) at hreal
        have key : ∀ p m, R X.P s.w m (s.fp p) (s.v t') (s.c t') → (∀ c, R X.P s.w .rep (s.fp p) v c → (m = .full → R X.P s.w .full (s.fp p) v c) → Real X (s.put d v c) d v c g) → o.wp X.P s.a s.w (Good X (setG none false d g Γ) L0 w0 K) Q := by
          intro p m hr hg
          obtain ⟨c, hrun, hr1, hr2⟩ := main rfl rfl rfl p m _ rfl hr
          exact good_set h f hd ho hrun (.inr (hg c hr1 hr2)) hk
        generalize hgt : Γ.getD t' .dead = gt at hin hreal
        cases gt <;> simp only [inKind, Option.some.injEq, reduceCtorEq] at hin <;> subst hin
        case fl => exact key (fun _ => False) .rep hreal fun c h1 _ => h1
        case own => exact key _ _ hreal fun c h1 _ => h1
        case sh => exact key _ _ hreal fun c h1 _ => h1
        case fz => exact key _ _ hreal fun c _ h2 => h2 rfl
        case rn => exact key _ _ hreal fun c h1 _ => h1
        case rd y => exact key _ _ hreal fun c h1 _ => h1
        case al y => exact key _ _ hreal.1 fun c h1 _ => h1
        case bal u0 n0 =>
          obtain ⟨r, j, _, _, hb⟩ := bal_data h hreal
          refine key Lab.isB .rep (hb.rep.mono fun k hk' => ?_) fun c h1 _ => h1
          obtain ⟨j', hk', _⟩ := hk'
          show (s.L k).isB
          rw [hk']; trivial
        case brd => exact key _ _ hreal fun c h1 _ => h1
        case mo m => exact key _ _ hreal.1 fun c h1 _ => h1
        case eal y u0 =>
          obtain ⟨_, _, _, _, _, _, _, _, _, _, _, _, _, _, hreal⟩ := hreal
          exact key _ _ hreal fun c h1 _ => h1
      split at he
      · rename_i y hin
        split at he
        · cases he
        · rename_i hne
          simp only [Option.some.injEq, Prod.mk.injEq, COp.loadE.injEq] at he
          obtain ⟨⟨_, e1, e2, e3, _⟩, e4⟩ := he
          exact inner _ e1 e2 e3 hin (fun z hz => by injection hz with hz; subst hz; exact hne) e4.symm
      · rename_i g hnr hin
        simp only [Option.some.injEq, Prod.mk.injEq, COp.loadE.injEq] at he
        obtain ⟨⟨_, e1, e2, e3, _⟩, e4⟩ := he
        exact inner _ e1 e2 e3 hin (fun z hz => by subst hz; exact absurd rfl (hnr z)) e4.symm
      · cases he
  · cases he
end
end Go.Den
set_option autoImplicit false
namespace Go.Den

def storeEV (t u y : PV) (n : Option Nat) : Option PV :=
  match t, u with
  | .sl e xs, .eix i j => match xs[i]? with
    | some x => if nOk n y = true ∧ reOk x y = true ∧ y.cells.all PV.def1 = true ∧ y.isFlat = true ∧ j + y.cells.length ≤ x.cells.length then some (.sl e (xs.set i (reCell x j y))) else none
    | none => none
  | _, _ => none
def rootOf (Γ : List G) (t : Nat) : Option Nat :=
  match Γ.getD t .dead with
  | .own => some t
  | .mo _ => some t
  | .al x => some x
  | _ => none
def moKeep (Γ : List G) (x : Nat) : G := match Γ.getD x .dead with
  | .mo m => .mo m
  | _ => .own
theorem moKeep_mk {X : Cx} {Γ : List G} {s s1 : S} {x : Nat} {v : PV} (h : Sim X Γ s) (hu : s.v x ≠ .undef) (hr : R X.P s1.w .own (s1.fp (· = .s x)) v (s.c x)) : Real X s1 x v (s.c x) (moKeep Γ x) := by
  have h2 := h.opnd' (o := .tmp x) rfl hu
  change Real X s x (s.v x) (s.c x) (Γ.getD x .dead) at h2
  unfold moKeep
  generalize Γ.getD x .dead = g at h2
  cases g <;> first | exact hr | exact ⟨hr, h2.2⟩
def elabStoreE (E : Env) (Γ : List G) (T : TypeId) (ua y : Operand) : Option (COp × List G) :=
  match ua, kdO Γ ua, tyN E.P T with
  | .tmp u, .ea t, some n => match rootOf Γ t with
    | some x => if kdO Γ y = .fl ∧ x < Γ.length then some (.storeE x u n y, setG (some x) false x (moKeep Γ x) Γ) else none
    | none => none
  | _, _, _ => none

section
variable {X : Cx} {Γ : List G} {s : S} {L0 : Nat → Lab} {w0 : World} {K : KV} {o : Oper} {Q : Exit → Act → World → Prop} {d : Nat}

theorem put_self (a : Act) (x : Nat) : a.put (some x) (a.tmps.getD x undef) = a := by
  obtain ⟨tmps, defs⟩ := a
  simp only [Act.put, Act.mk.injEq, and_true]
  apply Array.ext_getElem?
  intro i
  by_cases hx : x = i
  · subst hx
    by_cases hl : x < tmps.size
    · simp [hl, Array.getD]
    · simp [hl]
  · rw [Array.getElem?_setIfInBounds_ne hx]

theorem storeE_sound {E : Env} {T : TypeId} {ua y : Operand} {cop : COp} {Γ' : List G} (hE : E.P = X.P) (he : elabStoreE E Γ T ua y = some (cop, Γ')) (h : Sim X Γ s) (f : Fr X L0 w0 s.L s.w) (ho : o.dst = none) (hop : o.op = .store T ua y)
    (hk : ∃ x u n, cop = .storeE x u n y ∧ optK (storeEV (s.σ.getD x .undef) (s.σ.getD u .undef) (valO s.σ y) n) fun v => K (s.σ.set x v) s.H) : o.wp X.P s.a s.w (Good X Γ' L0 w0 K) Q := by
  obtain ⟨x, u, n, rfl, hk0⟩ := hk
  obtain ⟨v, hv, hk⟩ := hk0.get
  clear hk0
  unfold elabStoreE at he
  split at he
  · rename_i u' t n' hty hkd
    rw [hE] at hty
    split at he
    · rename_i x' hroot
      split at he
      · rename_i hc
        simp only [Option.some.injEq, Prod.mk.injEq, COp.storeE.injEq] at he
        obtain ⟨⟨rfl, rfl, rfl, _⟩, rfl⟩ := he
        obtain ⟨hy, hxl⟩ := hc
        -- the values
        unfold storeEV at hv
        split at hv
        · rename_i e xs i j e1 e2
          split at hv
          · rename_i x0 hx0
            split at hv
            · rename_i hcond
              obtain ⟨hn, hre, hdef, hflat, hj⟩ := hcond
              injection hv with hv
              subst hv
              -- the root is the call's own
              have hown : R X.P s.w .own (s.fp (· = .s x')) (.sl e xs) (s.c x') ∧ s.c t = s.c x' ∧ s.v t = s.v x' := by
                unfold rootOf at hroot
                split at hroot
                · rename_i hg
                  injection hroot with hroot; subst hroot
                  have := h.opnd' (o := .tmp t) hg (by show s.v t ≠ _; rw [show s.v t = _ from e1]; simp)
                  change R X.P s.w .own (s.fp (· = .s t)) (s.v t) (s.c t) at this
                  rw [show s.v t = _ from e1] at this
                  exact ⟨this, rfl, rfl⟩
                · rename_i m hg
                  injection hroot with hroot; subst hroot
                  have := h.opnd' (o := .tmp t) hg (by show s.v t ≠ _; rw [show s.v t = _ from e1]; simp)
                  obtain ⟨this, _⟩ := this
                  change R X.P s.w .own (s.fp (· = .s t)) (s.v t) (s.c t) at this
                  rw [show s.v t = _ from e1] at this
                  exact ⟨this, rfl, rfl⟩
                · rename_i z hg
                  injection hroot with hroot; subst hroot
                  by_cases htu : s.v t = .undef
                  · exfalso
                    have hu := h.opnd' (o := .tmp u') hkd (by show s.σ.getD u' .undef ≠ _; rw [e2]; simp)
                    obtain ⟨_, _, _, _, _, _, _, h2, _⟩ := hu
                    rw [htu] at h2; cases h2
                  · have := h.opnd' (o := .tmp t) hg htu
                    obtain ⟨g1, g2, g3⟩ := this
                    change s.v t = s.v z at g2
                    change s.c t = s.c z at g3
                    rw [show valO s.σ (.tmp t) = s.v t from rfl, g2, show s.v z = _ from e1] at g1
                    rw [show s.a.eval (.tmp t) = s.c t from rfl, g3] at g1
                    exact ⟨g1, g3, g2⟩
                · cases hroot
              obtain ⟨hown, hct, hvt⟩ := hown
              obtain ⟨g, cap, cur, lab, hcx, hh, h1, h2, h3, hfp, hsz, hpos, hcl⟩ := hown.own_inv
              -- the address
              have hu := h.opnd' (o := .tmp u') hkd (by show s.σ.getD u' .undef ≠ _; rw [e2]; simp)
              obtain ⟨i2, j2, ee, xs2, ad, cap2, q1, q2, q3, q4, q5⟩ := hu
              change s.σ.getD u' .undef = _ at q1
              rw [e2] at q1
              injection q1 with q1a q1b
              subst q1a; subst q1b
              rw [hvt, show s.v x' = _ from e1] at q2
              injection q2 with q2a q2b
              subst q2a; subst q2b
              rw [hct, hcx] at q4
              injection q4 with q4a _ _
              injection q4a with q4a
              subst q4a
              rw [Addr.add_lit, Nat.zero_add] at q5
              -- the new cells
              have hyr := fl_of h hy rfl (by intro hx; rw [hx] at hdef; simp [PV.cells, PV.def1] at hdef)
              obtain ⟨_, hysz, hyc⟩ := hyr.cells (by intro hx; rw [hx] at hdef; simp [PV.cells, PV.def1] at hdef)
              let p := i * X.P.cellsOf e + j
              have hx0l := hsz x0 (List.mem_of_getElem? hx0)
              have hp : p + (s.a.eval y).cells.size ≤ cur.size := by
                have : (i + 1) * X.P.cellsOf e ≤ cap * X.P.cellsOf e := Nat.mul_le_mul_right _ (by omega)
                rw [Nat.add_mul] at this
                rw [hysz, h3]
                simp only [p]
                omega
              have hone : ∀ u ∈ (s.a.eval y).cells.toList, u.oneCell' = true := by
                intro z hz
                obtain ⟨q, hq, rfl⟩ := List.getElem_of_mem hz
                have hq' : q < (valO s.σ y).cells.length := by simpa [← hysz] using hq
                have := (hyc q hq').oneCell (by
                  simp only [List.all_eq_true] at hdef
                  exact hdef _ (by rw [List.getD_eq_getElem?_getD, List.getElem?_eq_getElem hq', Option.getD_some]; exact List.getElem_mem hq'))
                simpa [Array.getD, show q < (s.a.eval y).cells.size by omega] using this
              have hnc : (s.a.eval y).cells.size = n'.getD 1 := by
                rw [hysz]
                cases n' with
                | none => revert hn; cases valO s.σ y <;> simp [nOk, PV.cells]
                | some n => revert hn; cases valO s.σ y <;> simp [nOk, PV.cells]
              have hst := run_storeVar hty hh (c := s.a.eval y) (j := p) hnc hp hone
              let cur' : Array Value := (cur.toList.take p ++ (s.a.eval y).cells.toList ++ cur.toList.drop (p + (s.a.eval y).cells.size)).toArray
              have hrun : (execOp s.a.eval o).run X.P s.w = .ok .skip (s.w.setRow g cur') := by
                unfold execOp
                simp only [hop, Instr.storeAt, Instr.sureAddr, Sem.run_bind]
                rw [show s.a.eval (.tmp u') = .pointer (some ⟨g, p, none⟩) from q5]
                simp only [Sem.run_pure, Result.andThen_ok, hst]
                rfl
              have hgb : s.L g = .s x' := hfp
              let s1 : S := { s with w := s.w.setRow g cur' }
              have hother : ∀ k, s.L k ≠ .s x' → s1.w.heap[k]? = s.w.heap[k]? := fun k hk => setRow_other _ _ _ _ (by rintro rfl; exact hk hgb)
              have hst1 : Stay (some x') false s s1 := ⟨rfl, rfl, fun k hk _ => ⟨rfl, hother k (hk.1 x' rfl)⟩, fun r b hb => ⟨b, hb, rfl, rfl, fun _ _ => ⟨rfl, by
                obtain ⟨_, _, _, g2, _⟩ := h.box r b hb
                exact hother _ (by rw [g2]; simp)⟩⟩⟩
              have hbox : ∀ r b, s1.H[r]? = some b → BoxOk X s1 r b := fun r b hb => by
                have hbo := h.box r b hb
                obtain ⟨_, _, _, g2, _⟩ := hbo
                refine BoxOk.step (h.box r b hb) ⟨rfl, hother _ (by rw [g2]; simp)⟩ (fun k hk => ⟨rfl, hother k ?_⟩) (H_lt hb) (Nat.le_refl _) (fun _ _ => rfl)
                rcases hk with ⟨j, hk⟩ | hk | hk <;> rw [hk] <;> simp
              have hsize : s1.w.heap.size = s.w.heap.size := setRow_size _ _ _
              obtain ⟨rc1, rc2⟩ := reCell_len hre hj
              have hnew : R X.P s1.w .own (s1.fp (· = .s x')) (.sl e (xs.set i (reCell x0 j (valO s.σ y)))) (s.c x') := by
                rw [hcx]
                have hlen : (xs.set i (reCell x0 j (valO s.σ y))).length = xs.length := by simp
                rw [← hlen]
                refine R.own_mk (cur := cur') lab (setRow_heap s.w g cur cur' e (0, 0) hh) (by rw [hlen]; exact h1) h2 (by simp only [cur']; simp; omega) hgb ?_ hpos fun q hq => ?_
                · intro z hz
                  rcases List.mem_or_eq_of_mem_set hz with hz | rfl
                  · exact hsz z hz
                  · rw [rc1]; exact hx0l
                · have hil : i < xs.length := q3
                  have hflen : (flatten xs).length = xs.length * X.P.cellsOf e := flatten_len hsz
                  have hq' : q < (flatten xs).length := by
                    rw [hflen]
                    have := flatten_len (xs := xs.set i (reCell x0 j (valO s.σ y))) (n := X.P.cellsOf e) (by
                      intro z hz
                      rcases List.mem_or_eq_of_mem_set hz with hz | rfl
                      · exact hsz z hz
                      · rw [rc1]; exact hx0l)
                    rw [this, hlen] at hq; exact hq
                  have e3 : cur'.getD q undef = if p ≤ q ∧ q < p + (s.a.eval y).cells.size then (s.a.eval y).cells.getD (q - p) undef else cur.getD q undef := by
                    have := splice_get cur.toList (s.a.eval y).cells.toList p q undef (by simpa using hp)
                    have conv : ∀ l : List Value, l.toArray.getD q undef = l.getD q undef := fun l => by simp [Array.getD_eq_getD_getElem?, List.getD_eq_getElem?_getD]
                    have conv' : ∀ (arr : Array Value) (m : Nat), arr.getD m undef = arr.toList.getD m undef := fun arr m => by simp [Array.getD_eq_getD_getElem?, List.getD_eq_getElem?_getD]
                    simp only [cur']
                    rw [conv, conv' (s.a.eval y).cells, conv' cur, ← Array.length_toList, this]
                  rw [flatten_set hsz (by rw [rc1]; exact hx0l) hil, e3]
                  have hxi : (flatten xs).getD q .undef = (flatten xs).getD q .undef := rfl
                  by_cases hin : p ≤ q ∧ q < p + (s.a.eval y).cells.size
                  · rw [if_pos hin, if_pos (by simp only [p] at hin; omega), rc2, if_pos (by simp only [p] at hin; omega)]
                    rw [show q - i * X.P.cellsOf e - j = q - p by simp only [p]; omega]
                    exact (hyc (q - p) (by omega)).nowhere fun k hk => (part_sub k hk).elim
                  · rw [if_neg hin]
                    have hold := hcl q hq'
                    have hvq : (if i * X.P.cellsOf e ≤ q ∧ q < i * X.P.cellsOf e + X.P.cellsOf e then (reCell x0 j (valO s.σ y)).cells.getD (q - i * X.P.cellsOf e) .undef else (flatten xs).getD q .undef) = (flatten xs).getD q .undef := by
                      by_cases hq2 : i * X.P.cellsOf e ≤ q ∧ q < i * X.P.cellsOf e + X.P.cellsOf e
                      · rw [if_pos hq2, rc2, if_neg (by simp only [p] at hin; omega)]
                        have := flatten_get hsz hx0 (j := q - i * X.P.cellsOf e) (by omega)
                        rw [← this]; congr 1; omega
                      · rw [if_neg hq2]
                    rw [hvq]
                    exact (R.frame hold fun k hk => setRow_other _ _ _ _ (by rintro rfl; exact hk.2.1 rfl)).mono fun k hk => hk
              have hfin := h.put (d := x') (g := moKeep Γ x') (c := s.c x') hst1 hxl hbox (fun k hk => h.top k (by rw [hsize] at hk; exact hk)) (.inr (moKeep_mk (s1 := s1.put x' (.sl e (xs.set i (reCell x0 j (valO s.σ y)))) (s.c x')) h (by rw [show s.v x' = _ from e1]; simp) hnew))
              refine op_skip hrun ?_
              rw [ho]
              refine ⟨_, ?_, ?_, hfin, ?_, hk⟩
              · show s.a.put (some x') (s.a.tmps.getD x' undef) = s.a
                exact put_self _ _
              · rfl
              · refine f.trans ⟨rfl, rfl, rfl, by show s.w.heap.size ≤ (s.w.setRow g cur').heap.size; rw [setRow_size]; exact Nat.le_refl _, fun k _ hl => ⟨?_, rfl⟩⟩
                exact setRow_other _ _ _ _ (by rintro rfl; rw [hgb] at hl; exact hl)
            · cases hv
          · cases hv
        · cases hv
      · cases he
    · cases he
  · cases he
end
end Go.Den
