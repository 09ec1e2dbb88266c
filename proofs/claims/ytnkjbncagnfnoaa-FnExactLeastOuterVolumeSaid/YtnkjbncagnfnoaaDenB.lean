/- Literals, calls, appends, one operation whole. Conditions: none. -/
import Derived.Test.YtnkjbncagnfnoaaDenA
import Derived.Great.FillDense
import Derived.Laws.Tables
import Derived.Orders
set_option linter.unusedVariables false
set_option linter.unusedSimpArgs false
set_option linter.unnecessarySimpa false
set_option autoImplicit false
namespace Go.Den

/-! ### Several values taken in hand -/
def eats : List (Option TK) → List Operand → List G → Option (List G × List Src)
  | [], [], Γ => some (Γ, [])
  | none :: ms, _ :: xs, Γ => match eats ms xs Γ with
    | some (Γ', ss) => some (Γ', .none :: ss)
    | none => none
  | some m :: ms, x :: xs, Γ => match eat m Γ x with
    | some (Γ1, src) => match eats ms xs Γ1 with
      | some (Γ', ss) => some (Γ', src :: ss)
      | none => none
    | none => none
  | _, _, _ => none
def eatsH (σ : List PV) (H : Boxes) : List Src → Boxes
  | [] => H
  | s :: ss => eatsH σ (eatH σ H s) ss

theorem eatsH_len {σ : List PV} : ∀ (ss : List Src) (H : Boxes), (eatsH σ H ss).length = H.length
  | [], _ => rfl
  | s :: ss, H => by rw [eatsH, eatsH_len ss]; exact eatH_len

def okHands (m : Option TK) (v : PV) : Prop := m = none ∨ v ≠ .undef

theorem TkOk.after {X : Cx} {s : S} {L' : Nat → Lab} {H' : Boxes} {i : Nat} {v : PV} {c : Value} {m : TK} (h : TkOk X.P s (.res i) v c m) (ht : ∀ k, s.w.heap.size ≤ k → s.L k = .no) (hf : Fr X s.L s.w L' s.w) (hr : ∀ k j, s.L k = .res j → L' k = .res j) :
    TkOk X.P { s with L := L', H := H' } (.res i) v c m := by
  have lt : ∀ k l, s.L k = l → l ≠ .no → k < s.w.heap.size := fun k l hk hl => by
    rcases Nat.lt_or_ge k s.w.heap.size with h1 | h1
    · exact h1
    · exact absurd (hk ▸ ht k h1) hl
  cases m with
  | fl => exact R.nowhere h fun _ h => h
  | own => exact R.step (s' := { s with L := L', H := H' }) h fun k hk => ⟨(hr k i hk).trans hk.symm, rfl⟩
  | sh => exact R.step (s' := { s with L := L', H := H' }) h fun k hk => ⟨(hf.keep k (lt k _ hk (by simp)) (by rw [show s.L k = _ from hk]; trivial)).2, rfl⟩
  | fz => exact R.step (s' := { s with L := L', H := H' }) h fun k hk => ⟨(hf.keep k (lt k _ hk (by simp)) (by rw [show s.L k = _ from hk]; trivial)).2, rfl⟩
  | dd => trivial

theorem Sim.eats {X : Cx} : ∀ (ms : List (Option TK)) (xs : List Operand) (Γ Γ' : List G) (s : S) (ss : List Src) (i0 : Nat), Sim X Γ s → eats ms xs Γ = some (Γ', ss) →
    (∀ (j : Nat) (m : Option TK) (x : Operand), ms[j]? = some m → xs[j]? = some x → okHands m (valO s.σ x)) →
    ∃ L', Sim X Γ' { s with L := L', H := eatsH s.σ s.H ss } ∧ (∀ (j : Nat) (m : TK) (x : Operand), ms[j]? = some (some m) → xs[j]? = some x → TkOk X.P { s with L := L', H := eatsH s.σ s.H ss } (.res (i0 + j)) (valO s.σ x) (s.a.eval x) m) ∧
      Fr X s.L s.w L' s.w ∧ ∀ k j, s.L k = .res j → L' k = .res j
  | [], [], Γ, Γ', s, ss, i0, h, he, hv => by
    simp only [Den.eats, Option.some.injEq, Prod.mk.injEq] at he
    obtain ⟨rfl, rfl⟩ := he
    exact ⟨s.L, h, fun j m x hm => by simp at hm, Fr.refl _ _ _, fun _ _ h => h⟩
  | none :: ms, x :: xs, Γ, Γ', s, ss, i0, h, he, hv => by
    simp only [Den.eats] at he
    split at he
    · rename_i Γ2 ss2 he2
      simp only [Option.some.injEq, Prod.mk.injEq] at he
      obtain ⟨rfl, rfl⟩ := he
      obtain ⟨L', h1, h2, h3, h4⟩ := Sim.eats ms xs Γ Γ2 s ss2 (i0 + 1) h he2 (fun j m y hm hy => hv (j + 1) m y (by simpa using hm) (by simpa using hy))
      refine ⟨L', h1, fun j m y hm hy => ?_, h3, h4⟩
      cases j with
      | zero => simp at hm
      | succ j =>
        have := h2 j m y (by simpa using hm) (by simpa using hy)
        rw [show i0 + (j + 1) = i0 + 1 + j by omega]
        exact this
    · cases he
  | some m0 :: ms, x :: xs, Γ, Γ', s, ss, i0, h, he, hv => by
    simp only [Den.eats] at he
    split at he
    · rename_i Γ1 src he1
      split at he
      · rename_i Γ2 ss2 he2
        simp only [Option.some.injEq, Prod.mk.injEq] at he
        obtain ⟨rfl, rfl⟩ := he
        have hvx : valO s.σ x ≠ .undef := by
          rcases hv 0 (some m0) x rfl rfl with h0 | h0
          · cases h0
          · exact h0
        obtain ⟨L1, g1, g2, g3, g4⟩ := h.eat he1 hvx i0
        obtain ⟨L2, h1, h2, h3, h4⟩ := Sim.eats ms xs Γ1 Γ2 { s with L := L1, H := eatH s.σ s.H src } ss2 (i0 + 1) g1 he2 (fun j m y hm hy => hv (j + 1) m y (by simpa using hm) (by simpa using hy))
        refine ⟨L2, h1, fun j m y hm hy => ?_, g3.trans h3, fun k j hk => h4 k j (g4 k j hk)⟩
        cases j with
        | zero =>
          simp only [List.getElem?_cons_zero, Option.some.injEq] at hm hy
          subst hm; subst hy
          exact g2.after (H' := eatsH s.σ (eatH s.σ s.H src) ss2) g1.top h3 h4
        | succ j =>
          have := h2 j m y (by simpa using hm) (by simpa using hy)
          rw [show i0 + (j + 1) = i0 + 1 + j by omega]
          exact this
      · cases he
    · cases he
  | [], _ :: _, _, _, _, _, _, _, he, _ => by simp [Den.eats] at he
  | none :: _, [], _, _, _, _, _, _, he, _ => by simp [Den.eats] at he
  | some _ :: _, [], _, _, _, _, _, _, he, _ => by simp [Den.eats] at he

/-- A new row in a slot. -/
theorem Sim.newRow {X : Cx} {Γ : List G} {s : S} {d : Nat} {v : PV} {c : Value} {o : Obj} {L' : Nat → Lab} (h : Sim X Γ s) (hd : d < Γ.length)
    (hL : ∀ k, k < s.w.heap.size → (∀ j, s.L k ≠ .res j) → L' k = s.L k) (hnew : L' s.w.heap.size = .s d) (htop : ∀ k, s.w.heap.size < k → L' k = .no)
    (new : ∀ s' : S, s' = { s with L := L', w := s.w.alloc o } → R X.P s'.w .own (s'.fp (· = .s d)) v c) :
    Sim X (setG none false d .own Γ) (({ s with L := L', w := s.w.alloc o } : S).put d v c) ∧ Fr X s.L s.w L' (s.w.alloc o) := by
  have hlab : ∀ k, k < s.w.heap.size → (∀ j, s.L k ≠ .res j) → L' k = s.L k ∧ (s.w.alloc o).heap[k]? = s.w.heap[k]? := fun k hk hj => ⟨hL k hk hj, alloc_old _ _ hk⟩
  have hlt : ∀ k, s.L k ≠ .no → k < s.w.heap.size := fun k hk => by
    rcases Nat.lt_or_ge k s.w.heap.size with h1 | h1
    · exact h1
    · exact absurd (h.top k h1) hk
  have hnr : ∀ g i j, ¬ G.uses g i (.res j) := by intro g i j; cases g <;> simp [G.uses, Lab.isB]
  let s1 : S := { s with L := L', w := s.w.alloc o }
  have h1 : Sim X Γ s1 := by
    refine ⟨h.lenG, h.lenA, h.defs, fun i g hg => ?_, fun r b hb => ?_, fun k hk => htop k (by have := alloc_size s.w o; change (s.w.alloc o).heap.size ≤ k at hk; omega), h.n0⟩
    · exact (h.slot i g hg).out ⟨rfl, rfl, fun k hk => hlab k (hlt k (by intro hx; rw [hx] at hk; exact uses_no hk)) (fun j hj => by rw [hj] at hk; exact hnr g i j hk), fun _ _ => ⟨rfl, rfl⟩, fun _ r b hr => by
        obtain ⟨vals', e', g1, _⟩ := h.box r b hr
        exact ⟨b, hr, rfl, rfl, fun _ _ => ⟨rfl, alloc_old _ _ (Array.getElem?_eq_some_iff.1 g1).1⟩⟩, by
        rintro m r j rfl hrj
        rcases h.slot i _ hg with hu | hu
        · rw [hrj] at hu; cases hu
        · obtain ⟨r', b, vals', e', p1, p2, p3, p4, p5, p6, p7⟩ := hu
          rw [hrj] at p1; injection p1 with p1 _; subst p1
          exact alloc_old _ _ (Array.getElem?_eq_some_iff.1 p6).1⟩
    · obtain ⟨_, _, g1, g2, _⟩ := h.box r b hb
      refine BoxOk.step (h.box r b hb) (hlab _ (Array.getElem?_eq_some_iff.1 g1).1 (by rw [g2]; simp)) (fun k hk => hlab k (hlt k ?_) ?_) (H_lt hb) (Nat.le_refl _) (fun _ _ => rfl)
      · rcases hk with ⟨j, hk⟩ | hk | hk <;> rw [hk] <;> simp
      · rcases hk with ⟨j, hk⟩ | hk | hk <;> rw [hk] <;> simp
  refine ⟨h1.set hd (.inr (new s1 rfl)), Fr.alloc o fun k hk hl => hL k hk ?_⟩
  intro j hj; rw [hj] at hl; exact hl

/-! #### make -/
def zeroV (z : Value) : Option PV :=
  match z with
  | .agg cs => if (cs.toList.map ofValue).all (fun v => match v with | .undef => false | _ => true) then some (.agg (cs.toList.map ofValue)) else none
  | c => match ofValue c with
    | .undef => none
    | v => some v
def mksV (e by_ : Nat) (z : PV) (l c : PV) : Option PV :=
  match l, c with
  | .int _ n, .int _ m => if n = m ∧ 0 ≤ n ∧ (by_ : Int) * n ≤ 281474976710656 ∧ n ≤ 9223372036854775807 then some (.sl e (List.replicate n.toNat z)) else none
  | _, _ => none
def elabMks (E : Env) (Γ : List G) (d : Nat) (T : TypeId) (l c : Operand) : Option (COp × List G) :=
  match E.P.underlying T with
  | some (.slice e) => match E.P.info? e with
    | some i => match i.zero.bind zeroV with
      | some z => if kdO Γ l = .fl ∧ kdO Γ c = .fl ∧ 0 < i.size ∧ z.cells.length = i.size then some (.mks d e i.bytes z l c, setG none false d .own Γ) else none
      | none => none
    | none => none
  | _ => none

theorem ofValue_all {cs : List Value} (h : (cs.map ofValue).all (fun v => match v with | .undef => false | _ => true) = true) : ∀ c ∈ cs, (ofValue c).flat = some c := by
  intro c hc
  simp only [List.all_eq_true, List.mem_map] at h
  have := h _ ⟨c, hc, rfl⟩
  rcases ofValue_flat c with h1 | h1
  · rw [h1] at this; cases this
  · exact h1

theorem zeroV_cells {z : Value} {v : PV} (h : zeroV z = some v) : z.cells.size = v.cells.length ∧ ∀ (j : Nat), j < v.cells.length → (v.cells.getD j .undef).flat = some (z.cells.getD j Go.undef) := by
  unfold zeroV at h
  split at h
  · rename_i cs
    split at h
    · rename_i hall
      injection h with h
      subst h
      have hf := ofValue_all hall
      refine ⟨by simp [PV.cells, Value.cells], fun j hj => ?_⟩
      have hj' : j < cs.size := by simpa [PV.cells] using hj
      have := hf cs[j] (by simp)
      simpa [PV.cells, Value.cells, List.getD_eq_getElem?_getD, Array.getD, hj'] using this
    · cases h
  · rename_i c hc
    have one : ∀ c : Value, (∀ cs, c ≠ .agg cs) → c.cells = #[c] := by intro c hc; cases c <;> first | rfl | exact absurd rfl (hc _)
    have h1 := one z (fun cs hx => hc cs hx)
    split at h
    · cases h
    · rename_i hnu
      injection h with h
      subst h
      rcases ofValue_flat z with h2 | h2
      · exact absurd h2 hnu
      · have h3 : (ofValue z).cells = [ofValue z] := by generalize ofValue z = u at h2; cases u <;> simp [PV.flat] at h2 <;> rfl
        rw [h1, h3]
        refine ⟨rfl, fun j hj => ?_⟩
        obtain rfl : j = 0 := by simpa using hj
        exact h2

theorem flatten_replicate (z : PV) (m : Nat) (hz : z.cells.length = m) (hm : 0 < m) : ∀ (n q : Nat), q < n * m → (flatten (List.replicate n z)).getD q .undef = z.cells.getD (q % m) .undef
  | 0, q, hq => by simp at hq
  | n + 1, q, hq => by
    rw [List.replicate_succ, flatten, List.flatMap_cons, List.getD_eq_getElem?_getD]
    by_cases h : q < m
    · rw [List.getElem?_append_left (by omega), Nat.mod_eq_of_lt h, List.getD_eq_getElem?_getD]
    · rw [List.getElem?_append_right (by omega), hz]
      have hq' : q - m < n * m := by rw [Nat.add_mul, Nat.one_mul] at hq; omega
      have := flatten_replicate z m hz hm n (q - m) hq'
      rw [List.getD_eq_getElem?_getD] at this
      have e : q % m = (q - m) % m := Nat.mod_eq_sub_mod (by omega)
      rw [e]
      exact this

section
variable {X : Cx} {Γ : List G} {s : S} {L0 : Nat → Lab} {w0 : World} {K : KV} {o : Oper} {Q : Exit → Act → World → Prop} {d : Nat}

theorem mks_sound {E : Env} {T : TypeId} {l c : Operand} {cop : COp} {Γ' : List G} (hE : E.P = X.P) (he : elabMks E Γ d T l c = some (cop, Γ')) (h : Sim X Γ s) (f : Fr X L0 w0 s.L s.w) (hd : d < Γ.length) (ho : o.dst = some d) (hop : o.op = .makeSlice T l c)
    (hk : ∃ e by_ z, cop = .mks d e by_ z l c ∧ optK (mksV e by_ z (valO s.σ l) (valO s.σ c)) fun v => K (s.σ.set d v) s.H) : o.wp X.P s.a s.w (Good X Γ' L0 w0 K) Q := by
  obtain ⟨e, by_, z, rfl, hk0⟩ := hk
  obtain ⟨v, hv, hk⟩ := hk0.get
  clear hk0
  unfold elabMks at he
  rw [hE] at he
  split at he
  · rename_i e' hT
    split at he
    · rename_i i hi
      split at he
      · rename_i z' hz
        split at he
        · rename_i hc
          simp only [Option.some.injEq, Prod.mk.injEq, COp.mks.injEq] at he
          obtain ⟨⟨_, rfl, rfl, rfl, _, _⟩, rfl⟩ := he
          obtain ⟨hl, hc2, hpos, hzl⟩ := hc
          obtain ⟨z0, hz0, hzv⟩ := Option.bind_eq_some_iff.1 hz
          unfold mksV at hv
          split at hv
          · rename_i k1 n k2 m e1 e2
            split at hv
            · rename_i hcond
              obtain ⟨rfl, hn0, hnb, hnm⟩ := hcond
              injection hv with hv
              subst hv
              have h1 := (fl_of h hl e1 (by simp)).int_inv
              have h2 := (fl_of h hc2 e2 (by simp)).int_inv
              have hce : X.P.cellsOf e' = i.size := by unfold Program.cellsOf; rw [hi]; rfl
              have hrun : (execOp s.a.eval o).run X.P s.w = .ok (.value (.slice (some ⟨s.w.heap.size, 0, none⟩) n.toNat n.toNat)) (s.w.alloc (.cells (madeCells z0.cells (n.toNat * i.size)) e')) := by
                unfold execOp
                simp only [hop, h1, h2]
                have := run_make (P := X.P) s.w T e' i z0 hT hi hz0 k1 k2 n n hn0 (Int.le_refl _) hnb hnm
                simp [this]
              let L' : Nat → Lab := fun k => if k = s.w.heap.size then .s d else s.L k
              obtain ⟨hs1, hf1⟩ := h.newRow (L' := L') (v := .sl e' (List.replicate n.toNat z')) (c := .slice (some ⟨s.w.heap.size, 0, none⟩) n.toNat n.toNat) (o := .cells (madeCells z0.cells (n.toNat * i.size)) e') hd
                (fun k hk _ => if_neg (by omega)) (if_pos rfl) (fun k hk => by show (if k = s.w.heap.size then Lab.s d else s.L k) = .no; rw [if_neg (by omega)]; exact h.top k (by omega))
                (by
                  rintro s' rfl
                  have hlen : (List.replicate n.toNat z').length = n.toNat := by simp
                  obtain ⟨hz1, hz2⟩ := zeroV_cells hzv
                  have hsz : ∀ x ∈ List.replicate n.toNat z', x.cells.length = X.P.cellsOf e' := fun x hx => by rw [(List.mem_replicate.1 hx).2, hce, hzl]
                  have := R.own_mk (P := X.P) (w := s.w.alloc (.cells (madeCells z0.cells (n.toNat * i.size)) e')) (fp := (S.fp { s with L := L', w := s.w.alloc (.cells (madeCells z0.cells (n.toNat * i.size)) e') } (· = .s d))) (e := e') (xs := List.replicate n.toNat z') (g := s.w.heap.size) (cap := n.toNat) (cur := madeCells z0.cells (n.toNat * i.size)) (fun _ => 0)
                    (heap_alloc_new s.w _) (by simp) (by simp only [maxLen]; omega) (by rw [size_madeCells, hce]) (show L' s.w.heap.size = .s d from if_pos rfl) hsz (by omega) (fun q hq => by
                      rw [flatten_len hsz, hlen, hce] at hq
                      rw [flatten_replicate z' i.size hzl hpos n.toNat q hq]
                      have hm : q % i.size < z'.cells.length := by rw [hzl]; exact Nat.mod_lt _ hpos
                      have := hz2 (q % i.size) hm
                      have e3 : (madeCells z0.cells (n.toNat * i.size)).getD q undef = z0.cells.getD (q % i.size) undef := by
                        have hzs : z0.cells.size = i.size := by rw [hz1, hzl]
                        simp [madeCells, Array.getD, hq, hzs, Nat.mod_lt _ hpos]
                      rw [e3]
                      exact .flat this)
                  rw [hlen] at this
                  exact this)
              refine op_value hrun ?_
              rw [ho]
              exact ⟨_, rfl, rfl, hs1, f.trans hf1, hk⟩
            · cases hv
          · cases hv
        · cases he
      · cases he
    · cases he
  · cases he

/-! #### functions made -/
def isRefs (vs : List PV) : Bool := vs.all fun v => match v with | .ref _ _ => true | _ => false
def elabMkfn (Γ : List G) (d : Nat) (fn : Fn) (first caps : Array Operand) : Option (COp × List G) :=
  match fn, first.toList with
  | .func g, [] => if (caps.toList.all fun x => match kdO Γ x with | .ptr _ _ => true | _ => false) then some (.mkfn d g caps.toList, setG none false d .fn Γ) else none
  | _, _ => none

theorem mkfn_sound {fn : Fn} {first caps : Array Operand} {cop : COp} {Γ' : List G} (he : elabMkfn Γ d fn first caps = some (cop, Γ')) (h : Sim X Γ s) (f : Fr X L0 w0 s.L s.w) (hd : d < Γ.length) (ho : o.dst = some d) (hop : o.op = .makeFunc fn first caps)
    (hk : ∃ g xs, cop = .mkfn d g xs ∧ isRefs (xs.map (valO s.σ)) = true ∧ K (s.σ.set d (.fn g (xs.map (valO s.σ)))) s.H) : o.wp X.P s.a s.w (Good X Γ' L0 w0 K) Q := by
  obtain ⟨g, xs, rfl, href, hk⟩ := hk
  unfold elabMkfn at he
  split at he
  · rename_i g' hfirst
    split at he
    · rename_i hall
      simp only [Option.some.injEq, Prod.mk.injEq, COp.mkfn.injEq] at he
      obtain ⟨⟨_, rfl, rfl⟩, rfl⟩ := he
      have hf0 : first = #[] := by rw [← Array.toList_eq_nil_iff]; exact hfirst
      subst hf0
      refine good_set h f hd ho (c := .func (.func g') #[] (caps.map s.a.eval)) ?_ (.inr (.inr ⟨g', _, _, rfl, rfl, by simp, fun i hi => ?_⟩)) hk
      · unfold execOp
        simp [hop, Instr.makeFunc]
      · have hi' : i < caps.size := by simpa using hi
        have hx : caps.toList.map (valO s.σ) = caps.toList.map (valO s.σ) := rfl
        have e1 : (caps.toList.map (valO s.σ)).getD i .undef = valO s.σ caps[i] := by simp [List.getD_eq_getElem?_getD, hi']
        have e2 : (caps.map s.a.eval).getD i undef = s.a.eval caps[i] := by simp [Array.getD, hi']
        rw [e1, e2]
        simp only [List.all_eq_true] at hall
        have hk' := hall caps[i] (by simp)
        have hv : valO s.σ caps[i] ≠ .undef := by
          simp only [isRefs, List.all_eq_true] at href
          have := href (valO s.σ caps[i]) (List.mem_map.2 ⟨caps[i], by simp, rfl⟩)
          intro hx; rw [hx] at this; cases this
        split at hk'
        · rename_i ck m hkd
          obtain ⟨r, j, b, h1, h2, h3, _⟩ := h.opnd' hkd hv
          exact ⟨r, j, h1, H_lt h3, h2⟩
        · cases hk'
    · cases he
  · cases he
end
end Go.Den
set_option autoImplicit false
namespace Go.Den

/-! #### slice literals -/
def litN (E : Env) (T : TypeId) : Option (TypeId × Nat) :=
  match E.P.underlying T with
  | some (.slice e) => match E.P.info? e with
    | some i => if i.zero.isSome = true ∧ 0 < i.size then some (e, i.size) else none
    | none => none
  | _ => none
def elabLit (E : Env) (Γ : List G) (d : Nat) (T : TypeId) (len : Nat) (parts : List (Nat × Operand)) : Option (COp × List G) :=
  match litN E T with
  | some (e, n) =>
    if parts.map (·.1) = List.range len ∧ len * n ≤ 16777216 then
      match eats (parts.map fun _ => some .own) (parts.map (·.2)) Γ with
      | some (Γ1, ss) => some (.lit d e n (parts.map (·.2)) ss, setG none false d .own Γ1)
      | none => none
    else none
  | none => none
def litOk (n : Nat) (vs : List PV) : Bool := vs.all fun v => decide (v.cells.length = n) && !v.isUndef

theorem parts_eq {α : Type} : ∀ (ps : List (Nat × α)) (i : Nat), ps.map (·.1) = List.range' i ps.length → ps = ((ps.map (·.2)).zipIdx i).map fun x => (x.2, x.1)
  | [], _, _ => rfl
  | (k, x) :: ps, i, h => by
    simp only [List.map_cons, List.length_cons, List.range'_succ, List.cons.injEq] at h
    obtain ⟨rfl, h⟩ := h
    simp only [List.map_cons, List.zipIdx_cons]
    rw [← parts_eq ps (k + 1) h]

section
variable {X : Cx} {Γ : List G} {s : S} {L0 : Nat → Lab} {w0 : World} {K : KV} {o : Oper} {Q : Exit → Act → World → Prop} {d : Nat}

theorem lit_sound {E : Env} {T : TypeId} {len : Nat} {parts : Array (Nat × Operand)} {cop : COp} {Γ' : List G} (hE : E.P = X.P) (he : elabLit E Γ d T len parts.toList = some (cop, Γ')) (h : Sim X Γ s) (f : Fr X L0 w0 s.L s.w) (hd : d < Γ.length) (ho : o.dst = some d) (hop : o.op = .buildSlice T len parts)
    (hk : ∃ e n xs ss, cop = .lit d e n xs ss ∧ litOk n (xs.map (valO s.σ)) = true ∧ K (s.σ.set d (.sl e (xs.map (valO s.σ)))) (eatsH s.σ s.H ss)) : o.wp X.P s.a s.w (Good X Γ' L0 w0 K) Q := by
  obtain ⟨e, n, xs, ss, rfl, hok, hk⟩ := hk
  unfold elabLit at he
  split at he
  · rename_i e' n' hlit
    split at he
    · rename_i hc
      split at he
      · rename_i Γ1 ss' hea
        simp only [Option.some.injEq, Prod.mk.injEq, COp.lit.injEq] at he
        obtain ⟨⟨_, rfl, rfl, rfl, rfl⟩, rfl⟩ := he
        obtain ⟨hpi, hsmall⟩ := hc
        unfold litN at hlit
        rw [hE] at hlit
        split at hlit
        · rename_i e2 hT
          split at hlit
          · rename_i i hi
            split at hlit
            · rename_i hzp
              simp only [Option.some.injEq, Prod.mk.injEq] at hlit
              obtain ⟨rfl, rfl⟩ := hlit
              obtain ⟨hz, hpos⟩ := hzp
              obtain ⟨z, hz⟩ := Option.isSome_iff_exists.1 hz
              let ys := parts.toList.map (·.2)
              have hys : ys.length = len := by
                have := congrArg List.length hpi
                simpa [ys] using this
              have hok' : ∀ y ∈ ys, (valO s.σ y).cells.length = i.size ∧ valO s.σ y ≠ .undef := by
                intro y hy
                simp only [litOk, List.all_eq_true, List.mem_map] at hok
                have := hok (valO s.σ y) ⟨y, by simpa [ys] using hy, rfl⟩
                simp only [Bool.and_eq_true, decide_eq_true_eq, Bool.not_eq_true'] at this
                exact ⟨this.1, fun hx => by have h2 := this.2; rw [hx] at h2; cases h2⟩
              obtain ⟨L1, hs1, hh, hf1, hres⟩ := Sim.eats _ _ Γ Γ1 s ss' 0 h hea (fun j m x hm hx => .inr (hok' x (List.mem_of_getElem? hx)).2)
              have hmg : ∀ j, j < ys.length → (parts.toList.map fun _ => some TK.own)[j]? = some (some .own) := fun j hj => by
                have : j < parts.toList.length := by simpa [ys] using hj
                rw [List.getElem?_map, List.getElem?_eq_getElem this]; rfl
              have hand : ∀ j, ∃ lab : Nat → Nat, j < ys.length → (s.a.eval (ys.getD j (.tmp 0))).cells.size = i.size ∧ ∀ q, q < i.size → R X.P s.w .own (part .own (fun k => L1 k = .res j) lab none q) ((valO s.σ (ys.getD j (.tmp 0))).cells.getD q .undef) ((s.a.eval (ys.getD j (.tmp 0))).cells.getD q undef) := fun j => by
                by_cases hj : j < ys.length
                · have hy : ys[j]? = some ys[j] := List.getElem?_eq_getElem hj
                  have e1 : ys.getD j (.tmp 0) = ys[j] := by rw [List.getD_eq_getElem?_getD, hy]; rfl
                  have ht := hh j .own ys[j] (hmg j hj) hy
                  obtain ⟨hcl, hnu⟩ := hok' _ (List.getElem_mem hj)
                  obtain ⟨lab, g1, g2⟩ := R.cells ht hnu
                  rw [e1]
                  refine ⟨lab, fun _ => ⟨by rw [g1, hcl], fun q hq => ?_⟩⟩
                  have := g2 q (by rw [hcl]; exact hq)
                  rwa [Nat.zero_add] at this
                · exact ⟨fun _ => 0, fun hx => absurd hx hj⟩
              obtain ⟨lb, hlb⟩ := Classical.skolem.1 hand
              -- the machine
              let vs := ys.map s.a.eval
              have hvs : ∀ v ∈ vs, v.cells.size = i.size := by
                intro v hv
                obtain ⟨y, hy, rfl⟩ := List.mem_map.1 hv
                obtain ⟨j, hj, rfl⟩ := List.getElem_of_mem hy
                have := (hlb j hj).1
                rwa [List.getD_eq_getElem?_getD, List.getElem?_eq_getElem hj] at this
              let cells0 : Array Value := (Array.range (len * i.size)).map ((if len * i.size = 0 then #[] else z.cells)[· % (if len * i.size = 0 then #[] else z.cells).size]!)
              obtain ⟨r, hr1, hr2, hr3⟩ := Great.fill_dense hpos vs 0 cells0 hvs (by simp [cells0, vs, hys])
              have hrsz : r.size = len * i.size := by rw [hr2]; simp [cells0]
              have hparts : (parts.map fun (j, x) => (j, s.a.eval x)).toList = (vs.zipIdx 0).map fun x => (x.2, x.1) := by
                have := parts_eq parts.toList 0 (by rw [hpi, List.range_eq_range']; congr 1; simpa [ys] using hys.symm)
                have h2 : parts.toList = (ys.zipIdx 0).map fun x => (x.2, x.1) := this
                rw [Array.toList_map, h2]
                simp only [vs, List.map_map, List.zipIdx_map]
                apply List.map_congr_left
                intro x _; rfl
              have hrun : (execOp s.a.eval o).run X.P s.w = .ok (.value (.slice (some ⟨s.w.heap.size, 0, none⟩) len len)) (s.w.alloc (.cells r e2)) := by
                unfold execOp
                simp only [hop]
                have : (Instr.buildSlice T len (parts.map fun (j, x) => (j, s.a.eval x))).run X.P s.w = .ok (.slice (some ⟨s.w.heap.size, 0, none⟩) len len) (s.w.alloc (.cells r e2)) := by
                  unfold Instr.buildSlice
                  rw [hparts]
                  have hns : ¬ (len * i.size > 2 ^ 24) := by omega
                  by_cases h0 : len * i.size = 0
                  · simp only [cells0, h0] at hr1
                    simp [run_underlying hT, sizeOf, typeInfo, hi, h0]
                    simp at hr1
                    simp [hr1, newRow]
                  · simp only [cells0, h0, if_false] at hr1
                    simp [run_underlying hT, sizeOf, typeInfo, zeroValue, hi, hz, hns, h0]
                    simp [hr1, newRow]
                simp only [Sem.run_bind, this, Result.andThen_ok]
                rfl
              let L' : Nat → Lab := fun k => if k = s.w.heap.size then .s d else match L1 k with | .res _ => .s d | l => l
              have hL'r : ∀ k j, k ≠ s.w.heap.size → L1 k = .res j → L' k = .s d := fun k j hk hj => by simp only [L']; rw [if_neg hk, hj]
              have hd1 : d < Γ1.length := by rw [hs1.lenG, ← h.lenG]; exact hd
              obtain ⟨hs2, hf2⟩ := hs1.newRow (L' := L') (v := .sl e2 (ys.map (valO s.σ))) (c := .slice (some ⟨s.w.heap.size, 0, none⟩) len len) (o := .cells r e2) hd1
                (fun k hk hj => by
                  change ∀ j, L1 k ≠ .res j at hj
                  change k < s.w.heap.size at hk
                  show L' k = L1 k
                  have hne : k ≠ s.w.heap.size := by omega
                  cases hl : L1 k <;> simp only [L', if_neg hne, hl] <;> exact absurd hl (hj _)) (if_pos rfl) (fun k hk => by
                  change s.w.heap.size < k at hk
                  simp only [L']; rw [if_neg (by omega), show L1 k = .no from hs1.top k (by show s.w.heap.size ≤ k; omega)])
                (by
                  rintro s' rfl
                  have hlen : (ys.map (valO s.σ)).length = len := by simp [hys]
                  have hce : X.P.cellsOf e2 = i.size := by unfold Program.cellsOf; rw [hi]; rfl
                  have hsz : ∀ x ∈ ys.map (valO s.σ), x.cells.length = X.P.cellsOf e2 := fun x hx => by
                    obtain ⟨y, hy, rfl⟩ := List.mem_map.1 hx
                    rw [hce]; exact (hok' y hy).1
                  have hold : ∀ k, k < s.w.heap.size → (s.w.alloc (.cells r e2)).heap[k]? = s.w.heap[k]? := fun k hk => alloc_old _ _ hk
                  have hlt : ∀ k j, L1 k = .res j → k < s.w.heap.size := fun k j hk => by
                    rcases Nat.lt_or_ge k s.w.heap.size with h1 | h1
                    · exact h1
                    · have := hs1.top k h1; change L1 k = .no at this; rw [this] at hk; cases hk
                  have := R.own_mk (P := X.P) (w := s.w.alloc (.cells r e2)) (fp := (S.fp { s with L := L', H := eatsH s.σ s.H ss', w := s.w.alloc (.cells r e2) } (· = .s d))) (e := e2) (xs := ys.map (valO s.σ)) (g := s.w.heap.size) (cap := len) (cur := r)
                    (fun k => match L1 k with | .res j => j * i.size + lb j k | _ => 0)
                    (heap_alloc_new s.w _) (by rw [hlen]; exact Nat.le_refl _) (by have : len ≤ len * i.size := Nat.le_mul_of_pos_right _ hpos; simp only [maxLen]; omega) (by rw [hrsz, hce]) (show L' s.w.heap.size = .s d from if_pos rfl) hsz (by omega) (fun q hq => by
                      rw [flatten_len hsz, hlen, hce] at hq
                      have hj : q / i.size < ys.length := by rw [hys]; exact (Nat.div_lt_iff_lt_mul hpos).2 hq
                      have hm : q % i.size < i.size := Nat.mod_lt _ hpos
                      have hqe : q / i.size * i.size + q % i.size = q := by rw [Nat.mul_comm]; exact Nat.div_add_mod _ _
                      obtain ⟨hb1, hb2⟩ := hlb (q / i.size) hj
                      have hb3 := hb2 (q % i.size) hm
                      have hy : ys[q / i.size]? = some ys[q / i.size] := List.getElem?_eq_getElem hj
                      have e1 : ys.getD (q / i.size) (.tmp 0) = ys[q / i.size] := by rw [List.getD_eq_getElem?_getD, hy]; rfl
                      rw [e1] at hb3 hb1
                      have e2 : (flatten (ys.map (valO s.σ))).getD q .undef = (valO s.σ ys[q / i.size]).cells.getD (q % i.size) .undef := by
                        have := flatten_get (n := i.size) (fun x hx => by rw [hsz x hx, hce]) (i := q / i.size) (j := q % i.size) (x := valO s.σ ys[q / i.size]) (xs := ys.map (valO s.σ)) (by simp [hj]) hm
                        rwa [hqe] at this
                      have e3 : r.getD q undef = (s.a.eval ys[q / i.size]).cells.getD (q % i.size) undef := by
                        have h3 := hr3 q
                        rw [if_pos ⟨by omega, by simp only [vs, List.length_map, hys, Nat.zero_add]; exact hq⟩] at h3
                        simp only [Nat.sub_zero, vs, List.getElem?_map, hy, Option.map_some, Option.bind_some] at h3
                        rw [Array.getD_eq_getD_getElem?, h3, Array.getD_eq_getD_getElem?]
                      rw [e2, e3]
                      refine (R.frame hb3 fun k hk => hold k (hlt k _ hk.1)).mono fun k hk => ?_
                      have hk1 : L1 k = .res (q / i.size) := hk.1
                      have hkl := hlt k _ hk1
                      refine ⟨show L' k = .s d from hL'r k _ (by omega) hk1, by simp; omega, ?_⟩
                      simp only [hk1]
                      have : lb (q / i.size) k = q % i.size := hk.2.2
                      rw [this]; exact hqe)
                  rw [hlen] at this
                  exact this)
              refine op_value hrun ?_
              rw [ho]
              exact ⟨_, rfl, rfl, hs2, (f.trans hf1).trans hf2, hk⟩
            · cases hlit
          · cases hlit
        · cases hlit
      · cases he
    · cases he
  · cases he
end
end Go.Den
set_option autoImplicit false
namespace Go.Den

/-! ### Calls -/
def PK.toG : PK → G
  | .fl => .fl | .rd => .sh | .own => .own | .fz => .fz | .ptr ck => .ptr ck false | .fn => .fn
def PK.eat : PK → Option TK
  | .own => some .own | .fz => some .fz | _ => none
def TK.toG : TK → G
  | .fl => .fl | .own => .own | .sh => .sh | .fz => .fz | .dd => .dead
def packV (cs : Array Value) : Value := if h : cs.size = 1 then cs[0] else .tuple cs
def packP : List PV → PV
  | [v] => v
  | vs => .tup vs
def setD (σ : List PV) (d : Option Nat) (v : PV) : List PV := match d with | some d => σ.set d v | none => σ

abbrev Tr := Nat → List PV → Boxes → KV → Prop

/-- What is known when a call begins, and what it brings: the last one is the parameter that the caller sees again. -/
def entG (sg : Sig) : List G := if sg.mu then (sg.ps.map PK.toG).set 0 (.mo 0) else sg.ps.map PK.toG
def Sig.rs' (sg : Sig) : List TK := if sg.mu then sg.rs ++ [.own] else sg.rs
theorem entG_len (sg : Sig) : (entG sg).length = sg.ps.length := by unfold entG; split <;> simp
/-- What a call of g does, whoever calls. -/
def Spec (P : Program) (g : Nat) (sg : Sig) (T : Tr) : Prop :=
  (∃ fn, P.funcs[g]? = some fn ∧ (fn.name == "runtime.NumGoroutine") = false ∧ fn.body.isNone = false) ∧
  ∀ (X : Cx) (s : S) (K : KV), X.P = P → Sim X (entG sg) s → X.n0 = s.H.length → (sg.pure = true → X.lim = X.n0) → (sg.mu = true → X.hd 0 = s.c 0) → T X.lim s.σ s.H K →
    Calls P g s.a.tmps s.w fun e w' => ∃ s' : S, e = .returned (packV (if sg.mu then s'.a.tmps.pop else s'.a.tmps)) ∧ s'.w = w' ∧ Sim X (sg.rs'.map TK.toG) s' ∧ (sg.mu = true → s'.c sg.rs.length = s.c 0) ∧ Fr X s.L s.w s'.L s'.w ∧ ∃ H', (sg.pure = true ∨ H' = s'.H) ∧ K s'.σ H'

def viewV (lim r : Nat) (ck : CK) : CK := if r < lim ∧ ck ≠ .fn then .sh else ck
def keepB (lim r : Nat) (ck : CK) : Bool := match viewV lim r ck with | .sh | .fn => true | _ => false
def mergeH (lim : Nat) (H H' : Boxes) : Boxes := H.mapIdx fun r b => if keepB lim r b.1 then b else (b.1, (H'.getD r b).2)
def argV (lim : Nat) (H : Boxes) : PK → PV → Prop
  | .ptr ck, .ref r _ => match H[r]? with
    | some b => viewV lim r b.1 = ck
    | none => False
  | .ptr _, _ => False
  | .own, v | .fz, v | .fn, v => v ≠ .undef
  | _, _ => True
def argsV (lim : Nat) (H : Boxes) : List PK → List PV → Prop
  | p :: ps, v :: vs => argV lim H p v ∧ argsV lim H ps vs
  | _, _ => True
def limV (pure : Bool) (lim : Nat) (H : Boxes) : Nat := if pure then H.length else lim
/-- The value-level call. -/
def callV (T : Tr) (lim : Nat) (sg : Sig) (d : Option Nat) (vs : List PV) (σ : List PV) (H1 : Boxes) (K : KV) : Prop :=
  argsV (limV sg.pure lim H1) H1 sg.ps vs ∧ T (limV sg.pure lim H1) vs H1 fun rs H' => K (setD σ d (packP rs)) (if sg.pure then H1 else mergeH lim H1 H')

theorem argsV_get {lim : Nat} {H : Boxes} : ∀ {ps : List PK} {vs : List PV} {i : Nat} {p : PK} {v : PV}, argsV lim H ps vs → ps[i]? = some p → vs[i]? = some v → argV lim H p v
  | [], _, _, _, _, _, hp, _ => by simp at hp
  | _ :: _, [], _, _, _, _, _, hv => by simp at hv
  | p0 :: ps, v0 :: vs, 0, p, v, h, hp, hv => by
    simp only [List.getElem?_cons_zero, Option.some.injEq] at hp hv
    subst hp; subst hv; exact h.1
  | p0 :: ps, v0 :: vs, i + 1, p, v, h, hp, hv => argsV_get h.2 (by simpa using hp) (by simpa using hv)

/-- A caller's label, as the called one sees it. -/
def trans (pure : Bool) (lim n : Nat) : Lab → Lab
  | .no => .no
  | .sh | .s _ | .t _ _ => .sh
  | .nw => if pure then .sh else .nw
  | .res j => if j < n then .s j else .sh
  | .b r j => if pure = true ∨ r < lim then .sh else .b r j
  | .bk r => .bk r
/-- And back. -/
def back (tl : Nat → Lab) (n : Nat) : Lab → Lab
  | .s j => tl j
  | .nw => .nw
  | .b r j => if r < n then .b r j else .no
  | .bk r => if r < n then .bk r else .no
  | _ => .no

def ArgFact (X : Cx) (s : S) (pure : Bool) (limc n : Nat) (i : Nat) (v : PV) (c : Value) : PK → Prop
  | .fl => v = .undef ∨ R X.P s.w .rep (fun _ => False) v c
  | .rd => v = .undef ∨ R X.P s.w .rep (s.fp fun l => trans pure X.lim n l = .sh) v c
  | .own => R X.P s.w .own (s.fp (· = .res i)) v c
  | .fz => pure = false ∧ R X.P s.w .full (s.fp (· = .nw)) v c
  | .ptr ck => ∃ r j b, v = .ref r j ∧ c = .pointer (some ⟨s.bm r, j, none⟩) ∧ s.H[r]? = some b ∧ viewV limc r b.1 = ck
  | .fn => FnOk s.bm s.H.length v c

section
variable {X : Cx} {Γ : List G} {s : S} {sg : Sig} {vs : List PV} {cs : List Value}

def entry (X : Cx) (s : S) (pure : Bool) (vs : List PV) (cs : List Value) : S :=
  { σ := vs, H := s.H, L := fun k => trans pure X.lim vs.length (s.L k), bm := s.bm, a := ⟨cs.toArray, []⟩, w := s.w }
def entryX (X : Cx) (s : S) (pure : Bool) (hd : Nat → Value) : Cx := { P := X.P, b0 := s.H.mapIdx fun r b => (b.1, s.bm r), lim := limV pure X.lim s.H, hd := hd }

theorem entryX_n0 {pure : Bool} {hd : Nat → Value} : (entryX X s pure hd).n0 = s.H.length := by simp [entryX, Cx.n0]
theorem entryX_b0 {pure : Bool} {hd : Nat → Value} {r : Nat} {b : CK × List PV} (hb : s.H[r]? = some b) : (entryX X s pure hd).b0[r]? = some (b.1, s.bm r) := by simp [entryX, hb]
theorem entryX_b0' {pure : Bool} {hd : Nat → Value} {r : Nat} {p : CK × Nat} (hb : (entryX X s pure hd).b0[r]? = some p) : ∃ b, s.H[r]? = some b ∧ p = (b.1, s.bm r) := by
  simp only [entryX, List.getElem?_mapIdx, Option.map_eq_some_iff] at hb
  obtain ⟨b, h1, h2⟩ := hb
  exact ⟨b, h1, h2.symm⟩

theorem lim_le {pure : Bool} (h : Sim X Γ s) : X.lim ≤ limV pure X.lim s.H := by
  unfold limV
  split
  · exact Nat.le_trans h.n0.1 h.n0.len
  · exact Nat.le_refl _

theorem view_eq {lim : Nat} (hl : X.lim = lim) (r : Nat) (ck : CK) : X.view r ck = viewV lim r ck := by unfold Cx.view viewV; rw [hl]

theorem Sim.entry' {hd : Nat → Value} (h : Sim X Γ s) (hl : sg.ps.length = vs.length) (hc : cs.length = vs.length)
    (hargs : ∀ (i : Nat) (p : PK) (v : PV) (c : Value), sg.ps[i]? = some p → vs[i]? = some v → cs[i]? = some c → ArgFact X s sg.pure (limV sg.pure X.lim s.H) vs.length i v c p) :
    Sim (entryX X s sg.pure hd) (sg.ps.map PK.toG) (Den.entry X s sg.pure vs cs) := by
  have hlt : ∀ k, s.L k ≠ .no → k < s.w.heap.size := fun k hk => by
    rcases Nat.lt_or_ge k s.w.heap.size with h1 | h1
    · exact h1
    · exact absurd (h.top k h1) hk
  refine ⟨by simp [Den.entry, hl], by simp [Den.entry, hc], rfl, fun i g hg => ?_, fun r b hb => ?_, fun k hk => ?_, ⟨?_, fun r p hp => ?_⟩⟩
  · simp only [List.getElem?_map, Option.map_eq_some_iff] at hg
    obtain ⟨p, hp, rfl⟩ := hg
    have hi : i < vs.length := by rw [← hl]; exact (List.getElem?_eq_some_iff.1 hp).1
    have hi2 : i < cs.length := by omega
    have ha := hargs i p vs[i] cs[i] hp (List.getElem?_eq_getElem hi) (List.getElem?_eq_getElem hi2)
    have e1 : (Den.entry X s sg.pure vs cs).v i = vs[i] := by simp [Den.entry, S.v, hi]
    have e2 : (Den.entry X s sg.pure vs cs).c i = cs[i] := by simp [Den.entry, S.c, Array.getD, hi2]
    unfold SlotOk
    rw [e1, e2]
    cases p with
    | fl => exact ha
    | rd => exact ha.imp id fun ha => R.mono ha fun k hk => hk
    | own =>
      refine .inr (R.mono ha fun k hk => ?_)
      show trans sg.pure X.lim vs.length (s.L k) = .s i
      rw [show s.L k = .res i from hk]; exact if_pos hi
    | fz =>
      refine .inr (R.mono ha.2 fun k hk => ?_)
      show trans sg.pure X.lim vs.length (s.L k) = .nw
      rw [show s.L k = .nw from hk, ha.1]; rfl
    | ptr ck =>
      obtain ⟨r, j, b, h1, h2, h3, h4⟩ := ha
      exact .inr ⟨r, j, b, h1, h2, h3, by rw [view_eq rfl]; exact h4, (fun hx => by cases hx), fun _ => by rw [entryX_n0]; exact H_lt h3⟩
    | fn => exact .inr ha
  · obtain ⟨vals, e, g1, g2, g3, g4⟩ := h.box r b hb
    refine ⟨vals, e, g1, ?_, g3, fun j hj => ?_⟩
    · show trans sg.pure X.lim vs.length (s.L (s.bm r)) = .bk r
      rw [g2]; rfl
    · have hc := g4 j hj
      have hr : r < s.H.length := H_lt hb
      have hle := lim_le (pure := sg.pure) h
      -- the views
      rw [view_eq rfl]
      change CellOk X s r j _ _ (viewV X.lim r b.1) at hc
      show CellOk _ _ r j _ _ (viewV (limV sg.pure X.lim s.H) r b.1)
      have fnc : b.1 = .fn → viewV X.lim r b.1 = .fn ∧ viewV (limV sg.pure X.lim s.H) r b.1 = .fn := fun hb => by rw [hb]; simp [viewV]
      by_cases hfn : b.1 = .fn
      · rw [(fnc hfn).1] at hc; rw [(fnc hfn).2]; exact hc
      by_cases h1 : r < X.lim
      · have e1 : viewV X.lim r b.1 = .sh := if_pos ⟨h1, hfn⟩
        have e2 : viewV (limV sg.pure X.lim s.H) r b.1 = .sh := if_pos ⟨by omega, hfn⟩
        rw [e1] at hc; rw [e2]
        exact R.mono hc fun k hk => by show trans sg.pure X.lim vs.length (s.L k) = .sh; rw [show s.L k = .sh from hk]; rfl
      have e1 : viewV X.lim r b.1 = b.1 := if_neg (by simp [h1])
      rw [e1] at hc
      by_cases hp : sg.pure = true
      · have e2 : viewV (limV sg.pure X.lim s.H) r b.1 = .sh := if_pos ⟨by simp [limV, hp, hr], hfn⟩
        rw [e2]
        cases hb1 : b.1 with
        | fn => exact absurd hb1 hfn
        | own => rw [hb1] at hc; exact (R.rep hc).mono fun k hk => by show trans sg.pure X.lim vs.length (s.L k) = .sh; rw [show s.L k = .b r j from hk, hp]; simp [trans]
        | sh => rw [hb1] at hc; exact R.mono hc fun k hk => by show trans sg.pure X.lim vs.length (s.L k) = .sh; rw [show s.L k = .sh from hk]; rfl
        | fz => rw [hb1] at hc; exact (R.rep hc).mono fun k hk => by show trans sg.pure X.lim vs.length (s.L k) = .sh; rw [show s.L k = .nw from hk, hp]; rfl
      · have hpf : sg.pure = false := by simpa using hp
        have e2 : viewV (limV sg.pure X.lim s.H) r b.1 = b.1 := if_neg (by simp [limV, hpf, h1])
        rw [e2]
        cases hb1 : b.1 with
        | fn => exact absurd hb1 hfn
        | own => rw [hb1] at hc; exact R.mono hc fun k hk => by show trans sg.pure X.lim vs.length (s.L k) = .b r j; rw [show s.L k = .b r j from hk, hpf]; simp [trans, h1]
        | sh => rw [hb1] at hc; exact R.mono hc fun k hk => by show trans sg.pure X.lim vs.length (s.L k) = .sh; rw [show s.L k = .sh from hk]; rfl
        | fz => rw [hb1] at hc; exact R.mono hc fun k hk => by show trans sg.pure X.lim vs.length (s.L k) = .nw; rw [show s.L k = .nw from hk, hpf]; rfl
  · show trans sg.pure X.lim vs.length (s.L k) = .no
    rw [h.top k hk]; rfl
  · rw [entryX_n0]
    show limV sg.pure X.lim s.H ≤ s.H.length
    unfold limV; split
    · exact Nat.le_refl _
    · exact Nat.le_trans h.n0.1 h.n0.len
  · obtain ⟨b, h1, rfl⟩ := entryX_b0' hp
    exact ⟨b, h1, rfl, rfl⟩

theorem Sim.entry {hd : Nat → Value} (h : Sim X Γ s) (hl : sg.ps.length = vs.length) (hc : cs.length = vs.length)
    (hargs : ∀ (i : Nat) (p : PK) (v : PV) (c : Value), sg.ps[i]? = some p → vs[i]? = some v → cs[i]? = some c → ArgFact X s sg.pure (limV sg.pure X.lim s.H) vs.length i v c p)
    (hmu : sg.mu = true → sg.ps[0]? = some .own ∧ hd 0 = cs.getD 0 undef) :
    Sim (entryX X s sg.pure hd) (entG sg) (Den.entry X s sg.pure vs cs) := by
  have h0 := h.entry' (hd := hd) hl hc hargs
  unfold entG
  split
  · rename_i hm
    obtain ⟨h1, h2⟩ := hmu hm
    refine h0.upgrade ?_
    have hg : (sg.ps.map PK.toG)[0]? = some .own := by rw [List.getElem?_map, h1]; rfl
    refine (h0.slot 0 _ hg).imp id fun hr => ⟨hr, ?_⟩
    show _ = hd 0
    rw [h2]
    simp [Den.entry, S.c, List.getD_eq_getElem?_getD, Array.getD_eq_getD_getElem?]
  · exact h0

/-- The caller's state behind the call. -/
noncomputable def exit' (X : Cx) (s s' : S) (pure : Bool) (n : Nat) (tl : Nat → Lab) (hd : Nat → Value) : S :=
  { σ := s.σ, H := if pure then s.H else mergeH X.lim s.H s'.H, bm := s.bm, a := s.a, w := s'.w,
    L := fun k => open Classical in if k < s.w.heap.size ∧ keeps (entryX X s pure hd) (trans pure X.lim n (s.L k)) then s.L k else back tl s.H.length (s'.L k) }

theorem Sim.leave {hd : Nat → Value} {s' : S} {n : Nat} {pure : Bool} {rs : List TK} (h : Sim X Γ s) (hs' : Sim (entryX X s pure hd) (rs.map TK.toG) s')
    (hf : Fr (entryX X s pure hd) (fun k => trans pure X.lim n (s.L k)) s.w s'.L s'.w) (tl : Nat → Lab) :
    Sim X (if pure then Γ else touchG none true Γ) (exit' X s s' pure n tl hd) ∧ Fr X s.L s.w (exit' X s s' pure n tl hd).L s'.w ∧
      (∀ (j : Nat) (tk : TK), rs[j]? = some tk → tk ≠ .sh → s'.v j = .undef ∨ (match tk with | .fl => R X.P s'.w .rep (fun _ => False) (s'.v j) (s'.c j) | .own => R X.P s'.w .own ((exit' X s s' pure n tl hd).fp (· = tl j)) (s'.v j) (s'.c j) | .sh => False | .fz => R X.P s'.w .full ((exit' X s s' pure n tl hd).fp (· = .nw)) (s'.v j) (s'.c j) | .dd => True)) := by
  let Xc := entryX X s pure hd
  let Lc : Nat → Lab := fun k => trans pure X.lim n (s.L k)
  let s2 := exit' X s s' pure n tl hd
  have hlt : ∀ k, s.L k ≠ .no → k < s.w.heap.size := fun k hk => by
    rcases Nat.lt_or_ge k s.w.heap.size with h1 | h1
    · exact h1
    · exact absurd (h.top k h1) hk
  -- what is kept
  have kept : ∀ k, k < s.w.heap.size → keeps Xc (Lc k) → s2.L k = s.L k ∧ s2.w.heap[k]? = s.w.heap[k]? ∧ s'.L k = Lc k := fun k hk hl => by
    obtain ⟨g1, g2⟩ := hf.keep k hk hl
    exact ⟨if_pos ⟨hk, hl⟩, g1, g2⟩
  have notkept : ∀ k, ¬ (k < s.w.heap.size ∧ keeps Xc (Lc k)) → s2.L k = back tl s.H.length (s'.L k) := fun k hk => if_neg hk
  have lc_sh : ∀ k, Lc k = .sh → keeps Xc (Lc k) := fun k hk => by rw [hk]; trivial
  have lim_le := Den.lim_le (pure := pure) h
  have bkept : ∀ k, pure = true → (∃ r j, s.L k = .b r j) → Lc k = .sh := fun k hp ⟨r, j, hk⟩ => by simp [Lc, hk, trans, hp]
  -- the boxes' keeping
  have hbox1 : ∀ r b, s.H[r]? = some b → keepB X.lim r b.1 = true ∨ pure = true → keeps Xc (.bk r) := by
    intro r b hb hk
    rcases hk with hk | hk
    · unfold keepB viewV at hk
      by_cases h1 : r < X.lim ∧ b.1 ≠ .fn
      · exact .inl (show r < limV pure X.lim s.H by omega)
      · rw [if_neg h1] at hk
        refine .inr ⟨_, entryX_b0 hb, ?_⟩
        cases hb1 : b.1 <;> rw [hb1] at hk <;> simp at hk ⊢
    · exact .inl (by show r < limV pure X.lim s.H; simp [limV, hk]; exact H_lt hb)
  have hH2 : ∀ r b, s.H[r]? = some b → s2.H[r]? = some (if keepB X.lim r b.1 = true ∨ pure = true then b else (b.1, (s'.H.getD r b).2)) := by
    intro r b hb
    show (if pure then s.H else mergeH X.lim s.H s'.H)[r]? = _
    by_cases hp : pure = true
    · simp [hp, hb]
    · simp only [hp, mergeH]
      simp [hb]
  have hH2len : s2.H.length = s.H.length := by
    show (if pure then s.H else mergeH X.lim s.H s'.H).length = _
    by_cases hp : pure = true <;> simp [hp, mergeH]
  have hst : Stay none (!pure) s s2 := by
    refine ⟨rfl, rfl, fun k hk hkl => ?_, fun r b hb => ?_⟩
    · have : keeps Xc (Lc k) := by
        have hk1 := hk.2.2
        have hk2 := hk.2.1
        show keeps Xc (trans pure X.lim n (s.L k))
        cases hl : s.L k with
        | no => trivial
        | sh => trivial
        | nw => simp only [trans]; split <;> trivial
        | s x => trivial
        | t x j => trivial
        | res j => rw [hl] at hk1; exact absurd trivial hk1
        | bk r => rw [hl] at hk1; exact absurd trivial hk1
        | b r j =>
          rw [hl] at hk2
          have hp : pure = true := by
            cases pure
            · exact absurd trivial (hk2 rfl)
            · rfl
          simp [trans, hp, keeps]
      obtain ⟨g1, g2, _⟩ := kept k hkl this
      exact ⟨g1, g2⟩
    · refine ⟨_, hH2 r b hb, ?_, rfl, fun hbx hown => ?_⟩
      · split <;> rfl
      · have hp : pure = true := by simpa using hbx
        refine ⟨if_pos (.inr hp), ?_⟩
        obtain ⟨vals, e, g1, g2, _⟩ := h.box r b hb
        exact (kept _ (Array.getElem?_eq_some_iff.1 g1).1 (by show keeps Xc (trans pure X.lim n (s.L (s.bm r))); rw [g2]; exact hbox1 r b hb (.inr hp))).2.1
  have hbox : ∀ r b', s2.H[r]? = some b' → BoxOk X s2 r b' := by
    intro r b' hb'
    have hr : r < s.H.length := by rw [← hH2len]; exact H_lt hb'
    have hb : s.H[r]? = some s.H[r] := List.getElem?_eq_getElem hr
    generalize s.H[r] = b at hb
    have hb2 := hH2 r b hb
    rw [hb'] at hb2
    injection hb2 with hb2
    obtain ⟨vals, e, g1, g2, g3, g4⟩ := h.box r b hb
    by_cases hk : keepB X.lim r b.1 = true ∨ pure = true
    · have hkk := hk
      rw [if_pos hk] at hb2
      subst hb2
      obtain ⟨k1, k2, _⟩ := kept _ (Array.getElem?_eq_some_iff.1 g1).1 (by show keeps Xc (trans pure X.lim n (s.L (s.bm r))); rw [g2]; exact hbox1 r b' hb hk)
      refine ⟨vals, e, k2.trans g1, k1.trans g2, g3, fun j hj => ?_⟩
      have hc := g4 j hj
      generalize hvw : X.view r b'.1 = ck at hc
      have stp : ∀ (l : Lab), l ≠ .no → (∀ k, s.L k = l → keeps Xc (Lc k)) → ∀ k, s.L k = l → s2.L k = s.L k ∧ s2.w.heap[k]? = s.w.heap[k]? := fun l hl hkp k hk => by
        obtain ⟨q1, q2, _⟩ := kept k (hlt k (by rw [hk]; exact hl)) (hkp k hk)
        exact ⟨q1, q2⟩
      cases ck with
      | fn => exact hc.imp id fun hc => hc.step (by rw [hH2len]; exact Nat.le_refl _) (fun _ _ => rfl)
      | sh => exact R.step (s' := s2) hc (stp .sh (by simp) fun k hk => by simp [Lc, hk, trans, keeps])
      | own =>
        refine R.step (s' := s2) hc (stp (.b r j) (by simp) fun k hk => ?_)
        have hp : pure = true := by
          rcases hkk with hk0 | hk0
          · rw [view_eq rfl] at hvw
            unfold keepB at hk0; rw [hvw] at hk0; cases hk0
          · exact hk0
        simp [Lc, hk, trans, hp, keeps]
      | fz =>
        refine R.step (s' := s2) hc (stp .nw (by simp) fun k hk => ?_)
        simp only [Lc, hk, trans]; split <;> trivial
    · rw [if_neg hk] at hb2
      subst hb2
      have hp : pure = false := by cases pure <;> simp at hk ⊢
      have hkb : keepB X.lim r b.1 = false := by cases hq : keepB X.lim r b.1 <;> simp [hq] at hk ⊢
      -- the called one's box
      obtain ⟨b2, q1, q2, q3⟩ := hs'.n0.2 r _ (entryX_b0 (X := X) (pure := pure) hb)
      simp only at q2 q3
      have e1 : s'.H.getD r b = b2 := by rw [List.getD_eq_getElem?_getD, q1]; rfl
      rw [e1]
      obtain ⟨vals', e', p1, p2, p3, p4⟩ := hs'.box r b2 q1
      rw [q3] at p1 p2
      have hlimr : ¬ (r < X.lim) ∧ (b.1 = .own ∨ b.1 = .fz) := by
        unfold keepB viewV at hkb
        by_cases h1 : r < X.lim ∧ b.1 ≠ .fn
        · rw [if_pos h1] at hkb; cases hkb
        · rw [if_neg h1] at hkb
          have h2 : b.1 = .own ∨ b.1 = .fz := by cases hb1 : b.1 <;> rw [hb1] at hkb <;> simp at hkb ⊢
          refine ⟨fun h3 => h1 ⟨h3, ?_⟩, h2⟩
          rcases h2 with h2 | h2 <;> rw [h2] <;> simp
      have hnk : ¬ keeps Xc (.bk r) := by
        rintro (h1 | ⟨p, h1, h2⟩)
        · change r < limV pure X.lim s.H at h1; simp [limV, hp] at h1; exact hlimr.1 h1
        · rw [entryX_b0 hb] at h1; injection h1 with h1; subst h1
          rcases hlimr.2 with h3 | h3 <;> rcases h2 with h2 | h2 <;> simp only at h2 <;> rw [h3] at h2 <;> cases h2
      refine ⟨vals', e', p1, ?_, p3, fun j hj => ?_⟩
      · have : s2.L (s.bm r) = back tl s.H.length (s'.L (s.bm r)) := notkept _ fun hx => hnk (by
          have h2 := hx.2
          change keeps Xc (trans pure X.lim n (s.L (s.bm r))) at h2
          rw [g2] at h2; exact h2)
        show s2.L (s.bm r) = _
        rw [this, p2]; exact if_pos hr
      · have hc := p4 j hj
        have v1 : Xc.view r b2.1 = b.1 := by
          rw [q2, view_eq rfl]; exact if_neg (by show ¬ (r < limV pure X.lim s.H ∧ _); simp [limV, hp, hlimr.1])
        have v2 : X.view r b.1 = b.1 := by rw [view_eq rfl]; exact if_neg (by simp [hlimr.1])
        change CellOk Xc s' r j _ _ (Xc.view r b2.1) at hc
        rw [v1] at hc
        rw [v2]
        rcases hlimr.2 with hb1 | hb1
        · rw [hb1] at hc ⊢
          refine R.relabel (s := s') (s1 := s2) hc fun k hk => ⟨?_, rfl⟩
          have : s2.L k = back tl s.H.length (s'.L k) := notkept _ fun hx => by
            have := (kept k hx.1 hx.2).2.2
            rw [hk] at this
            have h2 := hx.2
            rw [← this] at h2
            change r < limV pure X.lim s.H at h2
            simp [limV, hp] at h2; exact hlimr.1 h2
          rw [this, hk]; exact if_pos hr
        · rw [hb1] at hc ⊢
          refine R.relabel (s := s') (s1 := s2) hc fun k hk => ⟨?_, rfl⟩
          by_cases hx : k < s.w.heap.size ∧ keeps Xc (Lc k)
          · obtain ⟨k1, _, k3⟩ := kept k hx.1 hx.2
            rw [k1]
            rw [hk] at k3
            have : trans pure X.lim n (s.L k) = .nw := k3.symm
            cases hl : s.L k <;> rw [hl] at this <;> simp only [trans] at this <;> first | rfl | (split at this <;> cases this) | cases this
          · rw [notkept k hx, hk]; rfl
  have htop : ∀ k, s2.w.heap.size ≤ k → s2.L k = .no := fun k hk => by
    have : s2.L k = back tl s.H.length (s'.L k) := notkept k fun hx => by
      have := hf.size
      have h2 : s'.w.heap.size ≤ k := hk
      have h3 := hx.1
      omega
    rw [this, hs'.top k hk]; rfl
  refine ⟨?_, ?_, fun j tk htk hsh => ?_⟩
  · have := h.ghost hst hbox htop
    by_cases hp : pure = true
    · rw [if_pos hp]
      have e : touchG none (!pure) Γ = Γ := by
        rw [hp]
        apply List.ext_getElem?
        intro i
        simp only [touchG_eq, List.getElem?_mapIdx]
        cases hi : Γ[i]? with
        | none => rfl
        | some g => simp only [Option.map_some]; cases g <;> simp [kills]
      rw [e] at this; exact this
    · rw [if_neg hp]
      have e : (!pure) = true := by simpa using hp
      rw [e] at this; exact this
  · refine ⟨hf.os, hf.tape, hf.output, hf.size, fun k hk hl => ?_⟩
    have : keeps Xc (Lc k) := by
      show keeps Xc (trans pure X.lim n (s.L k))
      cases hlk : s.L k with
      | no => trivial
      | sh => trivial
      | nw => simp only [trans]; split <;> trivial
      | s x => trivial
      | t x j => trivial
      | res j => rw [hlk] at hl; exact hl.elim
      | b r j =>
        rw [hlk] at hl
        change r < X.lim at hl
        simp [trans, hl, keeps]
      | bk r =>
        rw [hlk] at hl
        rcases hl with hl | ⟨p, hp, hk2⟩
        · exact .inl (show r < limV pure X.lim s.H by omega)
        · obtain ⟨b, q1, q2, _⟩ := h.n0.2 r p hp
          exact .inr ⟨_, entryX_b0 q1, by rw [q2]; exact hk2⟩
    obtain ⟨g1, g2, _⟩ := kept k hk this
    exact ⟨g2, g1⟩
  · have hsl := hs'.slot j tk.toG (by simp [htk])
    rcases hsl with hsl | hsl
    · exact .inl hsl
    · right
      cases tk with
      | dd => trivial
      | fl => exact hsl
      | sh => exact absurd rfl hsh
      | own =>
        refine R.relabel (s := s') (s1 := s2) hsl fun k hk => ⟨?_, rfl⟩
        have : s2.L k = back tl s.H.length (s'.L k) := notkept k fun hx => by
          have k3 := (kept k hx.1 hx.2).2.2
          have h2 := hx.2
          rw [← k3, hk] at h2
          exact h2
        rw [this, hk]; rfl
      | fz =>
        refine R.relabel (s := s') (s1 := s2) hsl fun k hk => ⟨?_, rfl⟩
        by_cases hx : k < s.w.heap.size ∧ keeps Xc (Lc k)
        · obtain ⟨k1, _, k3⟩ := kept k hx.1 hx.2
          rw [k1]
          rw [hk] at k3
          have : trans pure X.lim n (s.L k) = .nw := k3.symm
          cases hl : s.L k <;> rw [hl] at this <;> simp only [trans] at this <;> first | rfl | (split at this <;> cases this) | cases this
        · rw [notkept k hx, hk]; rfl
end
end Go.Den
set_option autoImplicit false
namespace Go.Den

def resG (rs : List TK) : G := match rs with
  | [tk] => tk.toG
  | ks => .tup ks
def callG (sg : Sig) (d : Option Nat) (Γ : List G) : List G :=
  let Γ2 := if sg.pure then Γ else touchG none true Γ
  match d with
  | none => Γ2
  | some d => setG none false d (resG sg.rs) Γ2

section
variable {X : Cx} {Γ : List G} {s : S} {L0 : Nat → Lab} {w0 : World} {K : KV} {o : Oper} {Q : Exit → Act → World → Prop}

theorem call_core {g : Nat} {sg : Sig} {T : Tr} {d : Option Nat} {vs : List PV} {cs : List Value} (hmu : sg.mu = false) (hspec : Spec X.P g sg T) (h : Sim X Γ s) (f : Fr X L0 w0 s.L s.w) (hl : sg.ps.length = vs.length) (hc : cs.length = vs.length)
    (hargs : ∀ (i : Nat) (p : PK) (v : PV) (c : Value), sg.ps[i]? = some p → vs[i]? = some v → cs[i]? = some c → ArgFact X s sg.pure (limV sg.pure X.lim s.H) vs.length i v c p)
    (hsh : ∀ tk ∈ sg.rs, tk ≠ TK.sh) (hT : T (limV sg.pure X.lim s.H) vs s.H fun rs H' => K (setD s.σ d (packP rs)) (if sg.pure then s.H else mergeH X.lim s.H H'))
    (hd : ∀ d', d = some d' → d' < Γ.length) (ho : o.dst = d) (hrun : (execOp s.a.eval o).run X.P s.w = .ok (.enter g cs.toArray) s.w) : o.wp X.P s.a s.w (Good X (callG sg d Γ) L0 w0 K) Q := by
  unfold Oper.wp
  rw [hrun, Oper.upon_enter]
  let hd0 : Nat → Value := fun _ => undef
  have hlim : sg.pure = true → (entryX X s sg.pure hd0).lim = (entryX X s sg.pure hd0).n0 := fun hp => by rw [entryX_n0]; simp [entryX, limV, hp]
  have hrs : sg.rs' = sg.rs := by simp [Sig.rs', hmu]
  refine (hspec.2 (entryX X s sg.pure hd0) (entry X s sg.pure vs cs) _ rfl (h.entry hl hc hargs (fun hx => by rw [hmu] at hx; cases hx)) entryX_n0 hlim (fun hx => by rw [hmu] at hx; cases hx) hT).mono ?_
  rintro e w' ⟨s', rfl, rfl, hs', _, hf', H2, hH2, hK⟩
  rw [hrs] at hs'
  rw [show (if sg.mu = true then s'.a.tmps.pop else s'.a.tmps) = s'.a.tmps by simp [hmu]]
  replace hK : K (setD s.σ d (packP s'.σ)) (if sg.pure then s.H else mergeH X.lim s.H s'.H) := by
    rcases hH2 with hp | rfl
    · rw [if_pos hp] at hK ⊢; exact hK
    · exact hK
  show Good X (callG sg d Γ) L0 w0 K (s.a.put o.dst (packV s'.a.tmps)) s'.w
  rw [ho]
  have hlen : s'.σ.length = sg.rs.length := by have := hs'.lenG; simpa using this.symm
  have hsz : s'.a.tmps.size = sg.rs.length := by rw [hs'.lenA, hlen]
  let tl : Nat → Lab := fun j => if sg.rs.length = 1 then .res j else match d with | some d => .t d j | none => .no
  obtain ⟨h2, hf2, hr2⟩ := h.leave hs' hf' tl
  let s2 := exit' X s s' sg.pure vs.length tl hd0
  have hf2' : Fr X L0 w0 s2.L s2.w := f.trans hf2
  cases d with
  | none => exact ⟨s2, rfl, rfl, h2, hf2', hK⟩
  | some d =>
    have hdl : d < (if sg.pure then Γ else touchG none true Γ).length := by
      have := hd d rfl
      split
      · exact this
      · rw [touchG_len]; exact this
    by_cases h1 : sg.rs.length = 1
    · -- one result
      obtain ⟨tk, htk⟩ : ∃ tk, sg.rs = [tk] := List.length_eq_one_iff.1 h1
      obtain ⟨v, hv⟩ : ∃ v, s'.σ = [v] := List.length_eq_one_iff.1 (by omega)
      have hpv : packV s'.a.tmps = s'.c 0 := by
        unfold packV
        rw [dif_pos (by omega)]
        simp [S.c, Array.getD, show 0 < s'.a.tmps.size by omega]
      have hpp : packP s'.σ = s'.v 0 := by rw [hv]; simp [packP, S.v, hv]
      rw [hpv]
      change K (s.σ.set d (packP s'.σ)) _ at hK
      rw [hpp] at hK
      have hr := hr2 0 tk (by rw [htk]; rfl) (hsh tk (by rw [htk]; simp))
      have hΓ : callG sg (some d) Γ = setG none false d tk.toG (if sg.pure then Γ else touchG none true Γ) := by simp only [callG, htk, resG]
      rw [hΓ]
      rcases hr with hr | hr
      · exact ⟨s2.put d (s'.v 0) (s'.c 0), rfl, rfl, h2.set hdl (.inl hr), hf2', hK⟩
      · cases tk with
        | sh => exact hr.elim
        | fl => exact ⟨s2.put d (s'.v 0) (s'.c 0), rfl, rfl, h2.set hdl (.inr hr), hf2', hK⟩
        | dd => exact ⟨s2.put d (s'.v 0) (s'.c 0), rfl, rfl, h2.set hdl (.inr hr), hf2', hK⟩
        | fz => exact ⟨s2.put d (s'.v 0) (s'.c 0), rfl, rfl, h2.set hdl (.inr hr), hf2', hK⟩
        | own =>
          have htl : tl 0 = .res 0 := if_pos h1
          simp only [htl] at hr
          obtain ⟨L3, h3, hf3, _⟩ := h2.ownPut (d := d) (i := 0) hdl hr
          exact ⟨({ s2 with L := L3 } : S).put d (s'.v 0) (s'.c 0), rfl, rfl, h3, hf2'.trans hf3, hK⟩
    · have hpv : packV s'.a.tmps = .tuple s'.a.tmps := by
        unfold packV
        rw [dif_neg (by omega)]
      have hpp : packP s'.σ = .tup s'.σ := by
        unfold packP
        split
        · rename_i v hv; rw [hv] at hlen; simp at hlen; omega
        · rfl
      rw [hpv]
      change K (s.σ.set d (packP s'.σ)) _ at hK
      rw [hpp] at hK
      have hΓ : callG sg (some d) Γ = setG none false d (.tup sg.rs) (if sg.pure then Γ else touchG none true Γ) := by
        simp only [callG, resG]
        split
        · rename_i tk heq; rw [heq] at h1; simp at h1
        · rfl
      rw [hΓ]
      refine ⟨s2.put d (.tup s'.σ) (.tuple s'.a.tmps), rfl, rfl, h2.set hdl (.inr ⟨_, _, rfl, rfl, by omega, by omega, fun j hj => ?_⟩), hf2', hK⟩
      have hj' : j < sg.rs.length := by omega
      have hr := hr2 j sg.rs[j] (List.getElem?_eq_getElem hj') (hsh _ (List.getElem_mem hj'))
      have e1 : sg.rs.getD j .fl = sg.rs[j] := by rw [List.getD_eq_getElem?_getD, List.getElem?_eq_getElem hj']; rfl
      rw [e1]
      change s'.v j = .undef ∨ _ at hr
      have htl : tl j = .t d j := if_neg h1
      show TkOk X.P (s2.put d _ _) (.t d j) (s'.v j) (s'.c j) sg.rs[j]
      rcases hr with hr | hr
      · rw [hr]
        cases sg.rs[j] <;> first | exact .unk | trivial
      · cases htk : sg.rs[j] with
        | sh => rw [htk] at hr; exact hr.elim
        | fl => rw [htk] at hr; exact hr
        | dd => trivial
        | fz => rw [htk] at hr; exact hr
        | own => rw [htk] at hr; simp only [htl] at hr; exact hr

/-! #### a call of a known function, of a function value -/
def rdOk (pure : Bool) : G → Bool
  | .fl | .own | .rd _ | .al _ | .sh | .mo _ | .eal _ _ => true
  | .fz | .rn | .bal _ _ | .brd => pure
  | _ => false
def argOk (pure : Bool) (Γ : List G) : PK → Operand → Bool
  | .fl, x => kdO Γ x == .fl
  | .rd, x => rdOk pure (kdO Γ x)
  | .own, _ => true
  | .fz, _ => !pure
  | .ptr _, x => match kdO Γ x with | .ptr _ _ => true | _ => false
  | .fn, x => kdO Γ x == .fn
def argsOk (pure : Bool) (Γ : List G) : List PK → List Operand → Bool
  | [], [] => true
  | p :: ps, x :: xs => argOk pure Γ p x && argsOk pure Γ ps xs
  | _, _ => false
def preCall (sg : Sig) (nc : Nat) (Γ : List G) (xs : List Operand) : Option (List G × List Src) :=
  if sg.rs.all (fun tk => tk != .sh) = true ∧ sg.ps.length = xs.length + nc ∧ (sg.ps.drop xs.length).all (fun p => match p with | .ptr _ => true | _ => false) = true then
    match eats ((sg.ps.take xs.length).map PK.eat) xs Γ with
    | some (Γ1, ss) => if argsOk sg.pure Γ1 (sg.ps.take xs.length) xs then some (Γ1, ss) else none
    | none => none
  else none
def dOk (d : Option Nat) (n : Nat) : Bool := match d with
  | some d => decide (d < n)
  | none => true
def elabCall (sg : Sig) (nc : Nat) (Γ : List G) (d : Option Nat) (xs : List Operand) : Option (List Src × List G) :=
  if dOk d Γ.length = true then
    match preCall sg nc Γ xs with
    | some (Γ1, ss) => some (ss, callG sg d Γ1)
    | none => none
  else none

theorem argsOk_get {pure : Bool} {Γ : List G} : ∀ {ps : List PK} {xs : List Operand} {i : Nat} {p : PK} {x : Operand}, argsOk pure Γ ps xs = true → ps[i]? = some p → xs[i]? = some x → argOk pure Γ p x = true
  | [], _, _, _, _, _, hp, _ => by simp at hp
  | _ :: _, [], _, _, _, _, _, hv => by simp at hv
  | p0 :: ps, v0 :: vs, 0, p, v, h, hp, hv => by
    simp only [List.getElem?_cons_zero, Option.some.injEq] at hp hv
    simp only [argsOk, Bool.and_eq_true] at h
    subst hp; subst hv; exact h.1
  | p0 :: ps, v0 :: vs, i + 1, p, v, h, hp, hv => by
    simp only [argsOk, Bool.and_eq_true] at h
    exact argsOk_get h.2 (by simpa using hp) (by simpa using hv)

theorem rdOk_data {X : Cx} {Γ : List G} {s : S} {pure : Bool} {n : Nat} (hs : Sim X Γ s) {i : Nat} {v : PV} {c : Value} {g : G} (h : Real X s i v c g) (hr : rdOk pure g = true) : R X.P s.w .rep (s.fp fun l => trans pure X.lim n l = .sh) v c := by
  have key : ∀ p, g.data i = some p → (∀ l, p l → trans pure X.lim n l = .sh) → R X.P s.w .rep (s.fp fun l => trans pure X.lim n l = .sh) v c := fun p hp hl => (h.data hs hp).mono fun k hk => hl _ hk
  cases g <;> simp only [rdOk, Bool.false_eq_true] at hr
  case fl => exact key _ rfl fun l hl => hl.elim
  case own => exact key _ rfl fun l hl => by cases hl; rfl
  case sh => exact key _ rfl fun l hl => by cases hl; rfl
  case rd x => exact key _ rfl fun l hl => by cases hl; rfl
  case al x => exact key _ rfl fun l hl => by cases hl; rfl
  case mo m => exact key _ rfl fun l hl => by cases hl; rfl
  case eal x u => exact key _ rfl fun l hl => by cases hl; rfl
  case fz => exact key _ rfl fun l hl => by cases hl; simp [trans, hr]
  case rn => exact key _ rfl fun l hl => by cases hl; simp [trans, hr]
  case bal u m => exact key _ rfl fun l hl => by cases l <;> simp [Lab.isB] at hl; simp [trans, hr]
  case brd => exact key _ rfl fun l hl => by cases l <;> simp [Lab.isB] at hl; simp [trans, hr]

/-- The arguments, with what is eaten in hand. -/
theorem args_facts {sg : Sig} {nc : Nat} {xs : List Operand} {caps : List PV} {ccs : List Value} {ss : List Src} {Γ1 : List G} (he : preCall sg nc Γ xs = some (Γ1, ss)) (h : Sim X Γ s)
    (hcl : caps.length = nc) (hcc : ccs.length = nc) (hcap : ∀ i, i < nc → ∃ r j, caps.getD i .undef = .ref r j ∧ r < s.H.length ∧ ccs.getD i undef = .pointer (some ⟨s.bm r, j, none⟩))
    (hv : argsV (limV sg.pure X.lim (eatsH s.σ s.H ss)) (eatsH s.σ s.H ss) sg.ps (xs.map (valO s.σ) ++ caps)) :
    ∃ L1, Γ1.length = Γ.length ∧ (∀ tk ∈ sg.rs, tk ≠ TK.sh) ∧ sg.ps.length = (xs.map (valO s.σ) ++ caps).length ∧ (xs.map s.a.eval ++ ccs).length = (xs.map (valO s.σ) ++ caps).length ∧
      Sim X Γ1 { s with L := L1, H := eatsH s.σ s.H ss } ∧ Fr X s.L s.w L1 s.w ∧
      ∀ (i : Nat) (p : PK) (v : PV) (c : Value), sg.ps[i]? = some p → (xs.map (valO s.σ) ++ caps)[i]? = some v → (xs.map s.a.eval ++ ccs)[i]? = some c →
        ArgFact X { s with L := L1, H := eatsH s.σ s.H ss } sg.pure (limV sg.pure X.lim (eatsH s.σ s.H ss)) (xs.map (valO s.σ) ++ caps).length i v c p := by
  unfold preCall at he
  split at he
  · rename_i hc
    obtain ⟨hsh, hpl, hptr⟩ := hc
    split at he
    · rename_i Γ1 ss' hea
      split at he
      · rename_i hok
        simp only [Option.some.injEq, Prod.mk.injEq] at he
        obtain ⟨rfl, rfl⟩ := he
        have take_get : ∀ i, i < xs.length → (sg.ps.take xs.length)[i]? = sg.ps[i]? := fun i hi => by rw [List.getElem?_take]; simp [hi]
        have vget : ∀ i x, xs[i]? = some x → (xs.map (valO s.σ) ++ caps)[i]? = some (valO s.σ x) := fun i x hx => by
          have hi := (List.getElem?_eq_some_iff.1 hx).1
          rw [List.getElem?_append_left (by simpa using hi)]; simp [hx]
        obtain ⟨L1, hs1, hh, hf1, _⟩ := Sim.eats _ _ Γ Γ1 s ss' 0 h hea (fun j m x hm hx => by
          simp only [List.getElem?_map, Option.map_eq_some_iff] at hm
          obtain ⟨p, hp, rfl⟩ := hm
          have hj := (List.getElem?_eq_some_iff.1 hx).1
          rw [take_get j hj] at hp
          have hav := argsV_get hv hp (vget j x hx)
          cases p <;> first | exact .inl rfl | exact .inr hav)
        refine ⟨L1, by rw [hs1.lenG, h.lenG], fun tk htk => by simp only [List.all_eq_true] at hsh; simpa using hsh tk htk, by simp [hpl, hcl], by simp [hcl, hcc], hs1, hf1, fun i p v c hp hvi hci => ?_⟩
        have hav := argsV_get hv hp hvi
        by_cases hi : i < xs.length
        · have hx : xs[i]? = some xs[i] := List.getElem?_eq_getElem hi
          have hv' : valO s.σ xs[i] = v := by have := vget i _ hx; rw [hvi] at this; injection this with this; exact this.symm
          have hc' : s.a.eval xs[i] = c := by
            rw [List.getElem?_append_left (by simpa using hi)] at hci; simpa [hx] using hci
          have hao := argsOk_get hok (i := i) (p := p) (x := xs[i]) (by rw [take_get i hi]; exact hp) hx
          have hop := hs1.opnd xs[i]
          change valO s.σ xs[i] = .undef ∨ Real X { s with L := L1, H := eatsH s.σ s.H ss' } (slotO xs[i]) (valO s.σ xs[i]) (s.a.eval xs[i]) (kdO Γ1 xs[i]) at hop
          rw [hv', hc'] at hop
          cases p with
          | fl =>
            simp only [argOk, beq_iff_eq] at hao
            rw [hao] at hop
            exact hop
          | rd => exact hop.imp id fun hop => rdOk_data hs1 hop hao
          | own =>
            have := hh i .own xs[i] (by rw [List.getElem?_map, take_get i hi, hp]; rfl) hx
            rw [hv', hc', Nat.zero_add] at this
            exact this
          | fz =>
            have := hh i .fz xs[i] (by rw [List.getElem?_map, take_get i hi, hp]; rfl) hx
            rw [hv', hc', Nat.zero_add] at this
            exact ⟨by simpa [argOk] using hao, this⟩
          | ptr ck =>
            simp only [argOk] at hao
            split at hao
            · rename_i ck0 m0 hkd
              rw [hkd] at hop
              have hvu : v ≠ .undef := by intro hx; rw [hx] at hav; exact hav
              obtain ⟨r, j, b, h1, h2, h3, h4, h5⟩ := hop.resolve_left hvu
              refine ⟨r, j, b, h1, h2, h3, ?_⟩
              rw [h1] at hav
              simp only [argV] at hav
              change (match (eatsH s.σ s.H ss')[r]? with | some b => viewV _ r b.1 = ck | none => False) at hav
              change (eatsH s.σ s.H ss')[r]? = some b at h3
              rw [h3] at hav
              exact hav
            · cases hao
          | fn =>
            simp only [argOk, beq_iff_eq] at hao
            rw [hao] at hop
            exact hop.resolve_left hav
        · have hi' : xs.length ≤ i := by omega
          rw [List.getElem?_append_right (by simpa using hi')] at hvi hci
          simp only [List.length_map] at hvi hci
          have hil : i - xs.length < nc := by rw [← hcl]; exact (List.getElem?_eq_some_iff.1 hvi).1
          obtain ⟨r, j, h1, h2, h3⟩ := hcap _ hil
          rw [List.getD_eq_getElem?_getD, hvi] at h1
          rw [List.getD_eq_getElem?_getD, hci] at h3
          simp only [Option.getD_some] at h1 h3
          have hp' : ∃ ck, p = .ptr ck := by
            simp only [List.all_eq_true] at hptr
            have := hptr p (by rw [List.mem_iff_getElem?]; exact ⟨i - xs.length, by rw [List.getElem?_drop, show xs.length + (i - xs.length) = i by omega]; exact hp⟩)
            cases p <;> first | exact ⟨_, rfl⟩ | cases this
          obtain ⟨ck, rfl⟩ := hp'
          have hr2 : r < (eatsH s.σ s.H ss').length := by rw [eatsH_len]; exact h2
          rw [h1] at hav
          simp only [argV] at hav
          rw [List.getElem?_eq_getElem hr2] at hav
          exact ⟨r, j, _, h1, h3, List.getElem?_eq_getElem hr2, hav⟩
      · cases he
    · cases he
  · cases he

theorem run_enter {P : Program} {g : Nat} (h : ∃ fn, P.funcs[g]? = some fn ∧ (fn.name == "runtime.NumGoroutine") = false ∧ fn.body.isNone = false) (args : Array Value) (w : World) : (callFunc g args).run P w = .ok (.enter g args) w := by
  obtain ⟨fn, h1, h2, h3⟩ := h
  have h2' : ¬ fn.name = "runtime.NumGoroutine" := by simpa using h2
  have h3' : fn.body ≠ none := by intro hx; rw [hx] at h3; cases h3
  simp [callFunc, h1, h2', h3']

theorem elabCall_pre {sg : Sig} {nc : Nat} {d : Option Nat} {xs : List Operand} {ss : List Src} {Γ' : List G} (he : elabCall sg nc Γ d xs = some (ss, Γ')) :
    ∃ Γ1, preCall sg nc Γ xs = some (Γ1, ss) ∧ Γ' = callG sg d Γ1 ∧ ∀ d', d = some d' → d' < Γ.length := by
  unfold elabCall at he
  split at he
  · rename_i hd
    split at he
    · rename_i Γ1 ss' hp
      simp only [Option.some.injEq, Prod.mk.injEq] at he
      obtain ⟨rfl, rfl⟩ := he
      exact ⟨Γ1, hp, rfl, fun d' hd' => by subst hd'; simpa [dOk] using hd⟩
    · cases he
  · cases he

theorem call_sound {g : Nat} {sg : Sig} {T : Tr} {d : Option Nat} {args : Array Operand} {ats : Array TypeId} {ss : List Src} {Γ' : List G} (hmu : sg.mu = false) (hspec : Spec X.P g sg T) (he : elabCall sg 0 Γ d args.toList = some (ss, Γ')) (h : Sim X Γ s) (f : Fr X L0 w0 s.L s.w) (ho : o.dst = d)
    (hop : o.op = .call { callee := .value (.func g), args := args, argTypes := ats })
    (hk : callV T X.lim sg d (args.toList.map (valO s.σ)) s.σ (eatsH s.σ s.H ss) K) : o.wp X.P s.a s.w (Good X Γ' L0 w0 K) Q := by
  obtain ⟨hav, hT⟩ := hk
  obtain ⟨Γ1, he', rfl, hdl⟩ := elabCall_pre he
  obtain ⟨L1, hΓl, hsh, hl, hc, hs1, hf1, hargs⟩ := args_facts (caps := []) (ccs := []) he' h rfl rfl (fun i hi => absurd hi (by omega)) (by rw [List.append_nil]; exact hav)
  simp only [List.append_nil] at hl hc hargs
  refine call_core (s := { s with L := L1, H := eatsH s.σ s.H ss }) hmu hspec hs1 (f.trans hf1) hl hc hargs hsh hT (fun d' hd' => by rw [hΓl]; exact hdl d' hd') ho ?_
  show (execOp s.a.eval o).run X.P s.w = _
  unfold execOp
  simp only [hop, resolve, Act.eval, Deferred.ofValue]
  simp [invoke, run_enter hspec.1]
  apply Array.ext'
  simp

theorem callv_sound {g : Nat} {sg : Sig} {T : Tr} {d : Option Nat} {fo : Operand} {nc : Nat} {args : Array Operand} {ats : Array TypeId} {ss : List Src} {Γ' : List G} (hmu : sg.mu = false) (hspec : Spec X.P g sg T) (he : elabCall sg nc Γ d args.toList = some (ss, Γ')) (hkd : kdO Γ fo = .fn) (h : Sim X Γ s) (f : Fr X L0 w0 s.L s.w) (ho : o.dst = d)
    (hop : o.op = .call { callee := .value fo, args := args, argTypes := ats })
    (hk : ∃ caps, valO s.σ fo = .fn g caps ∧ caps.length = nc ∧ callV T X.lim sg d (args.toList.map (valO s.σ) ++ caps) s.σ (eatsH s.σ s.H ss) K) : o.wp X.P s.a s.w (Good X Γ' L0 w0 K) Q := by
  obtain ⟨caps, hfo, hcl, hav, hT⟩ := hk
  have hfn : FnOk s.bm s.H.length (valO s.σ fo) (s.a.eval fo) := h.opnd' hkd (by rw [hfo]; simp)
  rcases hfn with ⟨h1, _⟩ | ⟨g', caps', ccs, h1, h2, h3, h4⟩
  · rw [hfo] at h1; cases h1
  rw [hfo] at h1
  injection h1 with h1a h1b
  subst h1a; subst h1b
  obtain ⟨Γ1, he', rfl, hdl⟩ := elabCall_pre he
  obtain ⟨L1, hΓl, hsh, hl, hc, hs1, hf1, hargs⟩ := args_facts (caps := caps) (ccs := ccs.toList) he' h hcl (by simp [h3, hcl]) (fun i hi => by
    obtain ⟨r, j, g1, g2, g3⟩ := h4 i (by omega)
    exact ⟨r, j, g1, g2, by rw [← g3]; simp [List.getD_eq_getElem?_getD, Array.getD_eq_getD_getElem?]⟩) hav
  refine call_core (s := { s with L := L1, H := eatsH s.σ s.H ss }) hmu hspec hs1 (f.trans hf1) hl hc hargs hsh hT (fun d' hd' => by rw [hΓl]; exact hdl d' hd') ho ?_
  show (execOp s.a.eval o).run X.P s.w = _
  unfold execOp
  simp only [hop, resolve, h2, Deferred.ofValue]
  simp [invoke, run_enter hspec.1]
end
end Go.Den
set_option autoImplicit false
namespace Go.Den

/-! #### a call that changes what its first argument holds -/
def PV.noAgg : PV → Bool
  | .agg _ => false
  | _ => true
theorem PV.noAgg_cells {v : PV} (h : v.noAgg = true) : v.cells = [v] := by cases v <;> first | rfl | cases h
def backV (σ : List PV) (H : Boxes) (src : Src) (v : PV) : Option (List PV × Boxes) :=
  match src with
  | .slot y => some (σ.set y v, H)
  | .box u n => match σ.getD u .undef with
    | .ref r j => match H[r]? with
      | some b => if v.cells.length = max n 1 ∧ j + v.cells.length ≤ b.2.length ∧ (n = 0 → v.noAgg = true) then some (σ, H.set r (b.1, putCells b.2 j v.cells)) else none
      | none => none
    | _ => none
  | .elem t u => match σ.getD t .undef, σ.getD u .undef with
    | .sl e xs, .eix q j => match xs[q]? with
      | some x => if j < x.cells.length ∧ v.noAgg = true ∧ reOk x v = true then some (σ.set t (.sl e (xs.set q (reCell x j v))), H) else none
      | none => none
    | _, _ => none
  | .none => none
def backG (Γ0 : List G) (src : Src) (d : Nat) (Γ : List G) : Option (List G) :=
  match src with
  | .slot y => if y = d then none else some (setG none false y (moKeep Γ0 y) Γ)
  | .box u _ => if u = d then none else some Γ
  | .elem t u => if t = d ∨ u = d ∨ t = u then none else match Γ.getD t .dead with
    | .hole u' none => if u' = u then some (setG none false t .own Γ) else none
    | .hole u' (some m) => if u' = u then some (setG none false t (.mo m) Γ) else none
    | _ => none
  | .none => none
def noSrc : Src → Bool
  | .none => true
  | _ => false
def elabCallM (sg : Sig) (g : Nat) (Γ : List G) (d : Nat) (args : List Operand) : Option (COp × List G) :=
  if sg.mu = true ∧ sg.pure = true ∧ sg.rs = [.fl] ∧ sg.ps[0]? = some .own ∧ d < Γ.length then
    match args with
    | x :: xs => match preCall sg 0 Γ (x :: xs) with
      | some (Γ1, src :: ss) => if ss.all noSrc = true then (match backG Γ src d Γ1 with
        | some Γ2 => some (.callm d g sg x xs src, setG none false d .fl Γ2)
        | none => none) else none
      | _ => none
    | _ => none
  else none

section
variable {X : Cx} {Γ : List G} {s : S} {L0 : Nat → Lab} {w0 : World} {K : KV} {o : Oper} {Q : Exit → Act → World → Prop} {d : Nat}

theorem eatsH_none {σ : List PV} : ∀ {ss : List Src} {H : Boxes}, ss.all noSrc = true → eatsH σ H ss = H
  | [], _, _ => rfl
  | s :: ss, H, h => by
    simp only [List.all_cons, Bool.and_eq_true] at h
    rw [eatsH, show eatH σ H s = H by cases s <;> first | rfl | cases h.1]
    exact eatsH_none h.2

/-- What is in hand gets a label. -/
theorem Sim.giveLab {s : S} (h : Sim X Γ s) (i : Nat) (lf : Nat → Lab) (hl : ∀ k, (lf k).isK = False) (hlt : ∀ k, s.L k = .res i → lf k ≠ .no) : Sim X Γ { s with L := fun k => if s.L k = .res i then lf k else s.L k } ∧ Fr X s.L s.w (fun k => if s.L k = .res i then lf k else s.L k) s.w := by
  let L' : Nat → Lab := fun k => if s.L k = .res i then lf k else s.L k
  have hL : ∀ k, s.L k ≠ .res i → L' k = s.L k := fun k hk => if_neg hk
  have hno : ∀ g j, ¬ G.uses g j (.res i) := by intro g j; cases g <;> simp [G.uses, Lab.isB]
  refine ⟨⟨h.lenG, h.lenA, h.defs, fun j g hg => ?_, fun r b hb => ?_, fun k hk => ?_, h.n0⟩, rfl, rfl, rfl, Nat.le_refl _, fun k _ hk => ⟨rfl, hL k (by intro hx; rw [hx] at hk; exact hk)⟩⟩
  · refine (h.slot j g hg).out ⟨rfl, rfl, fun k hk => ⟨hL k ?_, rfl⟩, fun _ _ => ⟨rfl, rfl⟩, fun _ r b hr => ⟨b, hr, rfl, rfl, fun _ _ => ⟨rfl, rfl⟩⟩, fun _ _ _ _ _ => rfl⟩
    intro hx; rw [hx] at hk; exact hno g j hk
  · have hbo := h.box r b hb
    refine BoxOk.step hbo ⟨hL _ ?_, rfl⟩ (fun k hk => ⟨hL k ?_, rfl⟩) (H_lt hb) (Nat.le_refl _) (fun _ _ => rfl)
    · obtain ⟨_, _, _, h2, _⟩ := hbo; rw [h2]; simp
    · rcases hk with ⟨j, hk⟩ | hk | hk <;> rw [hk] <;> simp
  · have := h.top k hk
    show L' k = .no
    rw [hL k (by rw [this]; simp)]; exact this

theorem eat_elem {Γ0 Γ1 : List G} {x : Operand} {t u : Nat} (he : Den.eat .own Γ0 x = some (Γ1, .elem t u)) : kdO Γ0 x = .eal t u ∧ ∃ mo, Γ1 = (touchG (some t) false Γ0).set t (.hole u mo) ∧ (Γ0.getD t .dead = match mo with | none => .own | some m => .mo m) := by
  unfold Den.eat at he
  generalize kdO Γ0 x = g at he
  cases g <;> simp only [Option.some.injEq, Prod.mk.injEq, reduceCtorEq, and_false] at he
  rename_i t' u'
  split at he
  · rename_i hg
    simp only [Option.some.injEq, Prod.mk.injEq, Src.elem.injEq] at he
    obtain ⟨rfl, rfl, rfl⟩ := he
    exact ⟨rfl, none, rfl, hg⟩
  · rename_i m hg
    simp only [Option.some.injEq, Prod.mk.injEq, Src.elem.injEq] at he
    obtain ⟨rfl, rfl, rfl⟩ := he
    exact ⟨rfl, some m, rfl, hg⟩
  · cases he
theorem eat_slot {Γ0 Γ1 : List G} {x : Operand} {y : Nat} (he : Den.eat .own Γ0 x = some (Γ1, .slot y)) : ((kdO Γ0 x = .own ∨ ∃ m, kdO Γ0 x = .mo m) ∧ y = slotO x ∨ kdO Γ0 x = .al y) ∧ Γ1 = touchG (some y) false Γ0 := by
  unfold Den.eat at he
  generalize kdO Γ0 x = g at he
  cases g <;> simp only [Option.some.injEq, Prod.mk.injEq, reduceCtorEq, and_false, Src.slot.injEq] at he
  case own => obtain ⟨rfl, rfl⟩ := he; exact ⟨.inl ⟨.inl rfl, rfl⟩, rfl⟩
  case mo m => obtain ⟨rfl, rfl⟩ := he; exact ⟨.inl ⟨.inr ⟨m, rfl⟩, rfl⟩, rfl⟩
  case al z => obtain ⟨rfl, rfl⟩ := he; exact ⟨.inr rfl, rfl⟩
  case eal t u => split at he <;> simp at he
theorem eat_box {Γ0 Γ1 : List G} {x : Operand} {u n : Nat} (he : Den.eat .own Γ0 x = some (Γ1, .box u n)) : kdO Γ0 x = .bal u n ∧ Γ1 = touchB u Γ0 := by
  unfold Den.eat at he
  generalize kdO Γ0 x = g at he
  cases g <;> simp only [Option.some.injEq, Prod.mk.injEq, reduceCtorEq, and_false, Src.box.injEq] at he
  case bal => obtain ⟨rfl, rfl, rfl⟩ := he; exact ⟨rfl, rfl⟩
  case eal t u => split at he <;> simp at he

theorem R.oneC {P : Program} {w : World} {m : M} {fp : Nat → Prop} {v : PV} {c : Value} (h : R P w m fp v c) (hv : v ≠ .undef) (hn : v.noAgg = true) : c.cells = #[c] := by
  cases h with
  | unk => exact absurd rfl hv
  | flat h => cases v <;> simp [PV.flat] at h <;> subst h <;> rfl
  | agg => cases hn
  | row lab cs hsz hpos hrow hfp hel =>
    obtain ⟨ad, cap, rfl, _⟩ := hrow.rep
    rfl

/-- What is in hand goes back to where it came from. -/
theorem Sim.back {Γ0 Γ1 Γ2 : List G} {s0 s1 : S} {src : Src} {x : Operand} {v : PV} {c : Value} {i : Nat} {σ2 : List PV} {H2 : Boxes} (h0 : Sim X Γ0 s0) (hu : valO s0.σ x ≠ .undef) (hc : c = s0.a.eval x) (he : Den.eat .own Γ0 x = some (Γ1, src)) (hg : backG Γ0 src d Γ1 = some Γ2)
    (h1 : Sim X Γ1 s1) (hσ : s1.σ = s0.σ) (ha : s1.a = s0.a) (hbm : s1.bm = s0.bm) (hr : R X.P s1.w .own (s1.fp (· = .res i)) v c) (hv : v ≠ .undef)
    (hblk : ∀ (r : Nat) (b : CK × List PV), s0.H[r]? = some b → s1.w.heap[s0.bm r]? = s0.w.heap[s0.bm r]?) (hrow : ∀ k x, s0.L k = .s x → s1.L k = .s x → s1.w.heap[k]? = s0.w.heap[k]?) (hH : ∀ (r : Nat) (b : CK × List PV), s1.H[r]? = some b → ∃ b0 : CK × List PV, s0.H[r]? = some b0 ∧ b0.1 = b.1)
    (hb : backV s1.σ s1.H src v = some (σ2, H2)) :
    ∃ L', Sim X Γ2 { s1 with σ := σ2, H := H2, L := L' } ∧ Fr X s1.L s1.w L' s1.w := by
  have hvv : ∀ y, s1.v y = s0.v y := fun y => by simp [S.v, hσ]
  have hcc : ∀ y, s1.c y = s0.c y := fun y => by simp [S.c, ha]
  have aput : ∀ y, s1.a.put (some y) (s1.c y) = s1.a := fun y => put_self _ _
  cases src with
  | none => cases hg
  | slot y =>
    obtain ⟨hk, rfl⟩ := eat_slot he
    simp only [backG] at hg
    split at hg
    · cases hg
    · injection hg with hg
      subst hg
      simp only [backV, Option.some.injEq, Prod.mk.injEq] at hb
      obtain ⟨rfl, rfl⟩ := hb
      have hreal := h0.opnd' (o := x) rfl hu
      have hcy : c = s0.c y ∧ s0.v y ≠ .undef := by
        rw [hc]
        rcases hk with ⟨hk, rfl⟩ | hk
        · cases x with
          | tmp t => exact ⟨rfl, hu⟩
          | const v => rcases hk with hk | ⟨m, hk⟩ <;> cases hk
          | func f => rcases hk with hk | ⟨m, hk⟩ <;> cases hk
          | global g => rcases hk with hk | ⟨m, hk⟩ <;> cases hk
        · rw [hk] at hreal
          exact ⟨hreal.2.2, by rw [← hreal.2.1]; exact hu⟩
      have hyl : y < (touchG (some y) false Γ0).length := by
        rw [touchG_len, h0.lenG]
        rcases Nat.lt_or_ge y s0.σ.length with hlt | hge
        · exact hlt
        · exact absurd (by show s0.σ.getD y .undef = .undef; rw [List.getD_eq_getElem?_getD, List.getElem?_eq_none hge]; rfl) hcy.2
      obtain ⟨g1, g2⟩ := h1.giveLab i (fun _ => .s y) (fun _ => by simp [Lab.isK]) (fun _ _ => by simp)
      refine ⟨_, ?_, g2⟩
      have hnew : R X.P s1.w .own (fun k => (if s1.L k = .res i then Lab.s y else s1.L k) = .s y) v (s0.c y) := by
        rw [← hcy.1]
        exact hr.mono fun k hk => by show (if s1.L k = .res i then Lab.s y else s1.L k) = .s y; rw [if_pos (show s1.L k = .res i from hk)]
      have g3 := g1.set (d := y) (g := moKeep Γ0 y) (v := v) (c := s1.c y) hyl (.inr (by
        rw [hcc]
        exact moKeep_mk (s1 := S.put { s1 with L := fun k => if s1.L k = .res i then .s y else s1.L k } y v (s0.c y)) h0 hcy.2 hnew))
      have e : S.put { s1 with L := fun k => if s1.L k = .res i then .s y else s1.L k } y v (s1.c y) = { s1 with σ := s1.σ.set y v, L := fun k => if s1.L k = .res i then .s y else s1.L k } := by
        unfold S.put
        simp only [aput]
      rw [e] at g3
      exact g3
  | elem t u =>
    obtain ⟨hkd, mo, rfl, hmo⟩ := eat_elem he
    have hreal := h0.opnd' hkd hu
    obtain ⟨q, j, e, xs, x0, ad, cap, p1, p2, p3, p4, p5, p6, p7, _⟩ := hreal
    simp only [backV] at hb
    rw [show s1.σ.getD t .undef = .sl e xs from (hvv t).trans p2, show s1.σ.getD u .undef = .eix q j from (hvv u).trans p1] at hb
    simp only [p3] at hb
    split at hb
    · rename_i hcnd
      obtain ⟨c1, c2, c3⟩ := hcnd
      simp only [Option.some.injEq, Prod.mk.injEq] at hb
      obtain ⟨rfl, rfl⟩ := hb
      have htl : t < ((touchG (some t) false Γ0).set t (.hole u mo)).length := by
        rw [List.length_set, touchG_len, h0.lenG]
        rcases Nat.lt_or_ge t s0.σ.length with hlt | hge
        · exact hlt
        · have : s0.σ.getD t .undef = .undef := by rw [List.getD_eq_getElem?_getD, List.getElem?_eq_none hge]; rfl
          change s0.σ.getD t .undef = _ at p2
          rw [this] at p2; cases p2
      have hgt : ((touchG (some t) false Γ0).set t (.hole u mo))[t]? = some (.hole u mo) := by
        rw [List.getElem?_set_self]; rw [List.length_set] at htl; exact htl
      have hhole := (h1.slot t _ hgt).resolve_left (by rw [hvv, p2]; simp)
      obtain ⟨q', j', e', xs', x', r1, r2, r3, r4, r5, r6⟩ := hhole
      rw [hvv, p1] at r1
      injection r1 with r1a r1b
      subst r1a; subst r1b
      rw [hvv, p2] at r2
      injection r2 with r2a r2b
      subst r2a; subst r2b
      rw [p3] at r3
      injection r3 with r3
      subst r3
      obtain ⟨gr, _, _, _, hcr, _, _, _, _, hgr, _⟩ := r5.own_inv
      have hnew := r5.putCell p3 r4 (u := c) (v := v) (own := s1.fp (· = .res i)) (fun g n cap' hs => by
        rw [hcc, p5] at hs
        injection hs with hs _ _
        injection hs with hs
        subst hs
        rw [World.cell?_of_block (w := s0.w) (w' := s1.w) (a := ({ block := g, off := 0 } : Addr).add (q * X.P.cellsOf e + j)) (by
          have : ((({ block := g, off := 0 } : Addr).add (q * X.P.cellsOf e + j))).block = g := by unfold Addr.add; split <;> rfl
          rw [this]
          have hgg : gr = g := by
            rw [hcc, p5] at hcr
            injection hcr with hcr _ _
            injection hcr with hcr
            injection hcr with hcr
            exact hcr.symm
          subst hgg
          exact hrow gr t p7 hgr)]
        rw [hc]; exact p6) hr (PV.noAgg_cells c2) c3 (fun k hk hk2 => by
          have hk : s1.L k = .s t := hk
          have hk2 : s1.L k = .res i := hk2
          rw [hk] at hk2; cases hk2)
      obtain ⟨g1, g2⟩ := h1.giveLab i (fun _ => .s t) (fun _ => by simp [Lab.isK]) (fun _ _ => by simp)
      refine ⟨_, ?_, g2⟩
      have hnew2 : R X.P s1.w .own (fun k => (if s1.L k = .res i then Lab.s t else s1.L k) = .s t) (.sl e (xs.set q (reCell x0 j v))) (s1.c t) := hnew.mono fun k hk => by
        rcases hk with hk | hk
        · have hk : s1.L k = .s t := hk
          rw [if_neg (by rw [hk]; simp)]; exact hk
        · have hk : s1.L k = .res i := hk
          rw [if_pos hk]
      have fin : ∀ g, (Real X (S.put { s1 with L := fun k => if s1.L k = .res i then .s t else s1.L k } t (.sl e (xs.set q (reCell x0 j v))) (s1.c t)) t (.sl e (xs.set q (reCell x0 j v))) (s1.c t) g) → Γ2 = setG none false t g ((touchG (some t) false Γ0).set t (.hole u mo)) →
          Sim X Γ2 { s1 with σ := s1.σ.set t (.sl e (xs.set q (reCell x0 j v))), L := fun k => if s1.L k = .res i then .s t else s1.L k } := by
        rintro g hgr rfl
        have g3 := g1.set (d := t) (g := g) (v := .sl e (xs.set q (reCell x0 j v))) (c := s1.c t) htl (.inr hgr)
        have e : S.put { s1 with L := fun k => if s1.L k = .res i then .s t else s1.L k } t (.sl e (xs.set q (reCell x0 j v))) (s1.c t) = { s1 with σ := s1.σ.set t (.sl e (xs.set q (reCell x0 j v))), L := fun k => if s1.L k = .res i then .s t else s1.L k } := by
          unfold S.put
          simp only [aput]
        rw [e] at g3
        exact g3
      simp only [backG] at hg
      split at hg
      · cases hg
      · rw [show ((touchG (some t) false Γ0).set t (.hole u mo)).getD t .dead = .hole u mo by rw [List.getD_eq_getElem?_getD, hgt]; rfl] at hg
        cases mo with
        | none =>
          simp only [if_true, Option.some.injEq] at hg
          exact fin .own hnew2 hg.symm
        | some m =>
          simp only [if_true, Option.some.injEq] at hg
          exact fin (.mo m) ⟨hnew2, r6 m rfl⟩ hg.symm
    · cases hb
  | box u n =>
    obtain ⟨hkd, rfl⟩ := eat_box he
    have hreal := h0.opnd' hkd hu
    obtain ⟨r, j, b, vals, e, p1, p2, p3, p4, p5⟩ := hreal
    have hΓ : Γ2 = touchB u Γ0 := by
      simp only [backG] at hg
      split at hg
      · cases hg
      · injection hg with hg; exact hg.symm
    subst hΓ
    simp only [backV] at hb
    rw [show s1.σ.getD u .undef = .ref r j from (hvv u).trans p1] at hb
    simp only at hb
    split at hb
    · rename_i b1 hb1
      split at hb
      · rename_i hcnd
        obtain ⟨c1, c2, c3⟩ := hcnd
        simp only [Option.some.injEq, Prod.mk.injEq] at hb
        obtain ⟨rfl, rfl⟩ := hb
        obtain ⟨b0, hb0, hb01⟩ := hH r b1 hb1
        rw [p2] at hb0
        injection hb0 with hb0
        subst hb0
        obtain ⟨lab, hcs, hcl⟩ := hr.cells hv
        let L' : Nat → Lab := fun k => if s1.L k = .res i then .b r (j + lab k) else s1.L k
        obtain ⟨g1, g2⟩ := h1.giveLab i (fun k => .b r (j + lab k)) (fun _ => by simp [Lab.isK]) (fun _ _ => by simp)
        refine ⟨_, ?_, g2⟩
        have hrl : r < s1.H.length := H_lt hb1
        have hview : X.view r b1.1 = .own := by rw [← hb01]; exact p3
        have hget : ∀ r', r' ≠ r → (s1.H.set r (b1.1, putCells b1.2 j v.cells))[r']? = s1.H[r']? := fun r' hne => List.getElem?_set_ne (Ne.symm hne)
        have hself : (s1.H.set r (b1.1, putCells b1.2 j v.cells))[r]? = some (b1.1, putCells b1.2 j v.cells) := List.getElem?_set_self hrl
        refine ⟨g1.lenG, g1.lenA, g1.defs, fun i' g hg' => ?_, fun r' b' hb' => ?_, g1.top, g1.n0.step fun r' b' hb' => ?_⟩
        · by_cases hdead : g = .dead
          · subst hdead; exact .inr trivial
          obtain ⟨_, _, hap⟩ := touchB_get hg' hdead
          refine (g1.slot i' g hg').out ⟨rfl, rfl, fun k _ => ⟨rfl, rfl⟩, fun _ _ => ⟨rfl, rfl⟩, fun _ r' b' hb' => ?_, fun _ _ _ _ _ => rfl⟩
          by_cases hne : r' = r
          · subst hne
            change s1.H[r']? = some b' at hb'
            rw [hb1] at hb'
            injection hb' with hb'
            subst hb'
            refine ⟨_, hself, rfl, rfl, ?_⟩
            rintro ⟨u', n', j', rfl, hu'⟩ _
            exfalso
            have := h0.apart_false p1 (v := u') (j' := j') (by rw [← hvv]; exact hu')
            rw [hap u' n' rfl] at this
            cases this
          · exact ⟨b', by rw [hget r' hne]; exact hb', rfl, rfl, fun _ _ => ⟨rfl, rfl⟩⟩
        · by_cases hne : r' = r
          · subst hne
            change (s1.H.set r' (b1.1, putCells b1.2 j v.cells))[r']? = some b' at hb'
            rw [hself] at hb'
            injection hb' with hb'
            subst hb'
            obtain ⟨vals1, e1, q1, q2, q3, q4⟩ := g1.box r' b1 hb1
            have hvals : vals1 = vals ∧ e1 = e := by
              change s1.w.heap[s1.bm r']? = _ at q1
              rw [hbm, hblk r' b p2, p4] at q1
              injection q1 with q1
              injection q1 with q1a q1b _
              exact ⟨q1a.symm, q1b.symm⟩
            obtain ⟨rfl, rfl⟩ := hvals
            refine ⟨vals1, e1, q1, q2, by rw [putCells_len _ _ _ c2]; exact q3, fun q hq => ?_⟩
            rw [putCells_len _ _ _ c2] at hq
            show CellOk X _ r' q _ _ (X.view r' b1.1)
            rw [hview]
            rw [putCells_eq _ _ _ c2, splice_get _ _ _ _ _ c2]
            by_cases hin : j ≤ q ∧ q < j + v.cells.length
            · rw [if_pos hin]
              have h3 := hcl (q - j) (by omega)
              have hcq : vals1.getD q undef = c.cells.getD (q - j) undef := by
                by_cases hn : n = 0
                · subst hn
                  simp only [if_true] at p5
                  have hq0 : q = j := by simp at c1; omega
                  have h1c : c.cells = #[c] := hr.oneC hv (c3 rfl)
                  rw [hq0, Nat.sub_self, h1c, Array.getD_eq_getD_getElem?, p5.2, hc]; rfl
                · rw [if_neg hn] at p5
                  rw [hc, p5.2.2]
                  simp only [Value.cells, Array.getD_eq_getD_getElem?, Array.getElem?_extract]
                  rw [if_pos (by
                    have hsz := p5.1
                    have hvs : vals1.size = b1.2.length := q3
                    have : v.cells.length = n := by omega
                    omega)]
                  congr 2; omega
              rw [hcq]
              refine h3.mono fun k hk => ?_
              obtain ⟨hk1, _, hk2⟩ := hk
              show (if s1.L k = .res i then Lab.b r' (j + lab k) else s1.L k) = .b r' q
              rw [if_pos (show s1.L k = .res i from hk1), hk2]
              congr 1; omega
            · rw [if_neg hin]
              have h4 := q4 q hq
              rw [hview] at h4
              exact h4
          · change (s1.H.set r (b1.1, putCells b1.2 j v.cells))[r']? = some b' at hb'
            rw [hget r' hne] at hb'
            refine BoxOk.step (g1.box r' b' hb') ⟨rfl, rfl⟩ (fun k _ => ⟨rfl, rfl⟩) (H_lt hb') (by simp) (fun _ _ => rfl)
        · by_cases hne : r' = r
          · subst hne
            change s1.H[r']? = some b' at hb'
            rw [hb1] at hb'
            injection hb' with hb'
            subst hb'
            exact ⟨_, hself, rfl, rfl⟩
          · exact ⟨b', by rw [hget r' hne]; exact hb', rfl, rfl⟩
      · cases hb
    · cases hb

theorem backG_len {Γ0 Γ1 Γ2 : List G} {src : Src} (hg : backG Γ0 src d Γ1 = some Γ2) : Γ2.length = Γ1.length := by
  unfold backG at hg
  split at hg
  · split at hg
    · cases hg
    · injection hg with hg; rw [← hg, setG_len]
  · split at hg
    · cases hg
    · injection hg with hg; rw [hg]
  · split at hg
    · cases hg
    · split at hg
      · split at hg
        · injection hg with hg; rw [← hg, setG_len]
        · cases hg
      · split at hg
        · injection hg with hg; rw [← hg, setG_len]
        · cases hg
      · cases hg
  · cases hg

theorem eats_head {m : TK} {x : Operand} {ms : List (Option TK)} {xs : List Operand} {Γ0 Γ1 : List G} {src : Src} {ss : List Src} (he : eats (some m :: ms) (x :: xs) Γ0 = some (Γ1, src :: ss)) : ∃ Γm, Den.eat m Γ0 x = some (Γm, src) ∧ eats ms xs Γm = some (Γ1, ss) := by
  simp only [eats] at he
  split at he
  · rename_i Γm src' h1
    split at he
    · rename_i Γ2 ss' h2
      simp only [Option.some.injEq, Prod.mk.injEq, List.cons.injEq] at he
      obtain ⟨rfl, rfl, rfl⟩ := he
      exact ⟨Γm, h1, h2⟩
    · cases he
  · cases he
theorem eat_none {m : TK} {x : Operand} {Γ0 Γ1 : List G} (he : Den.eat m Γ0 x = some (Γ1, .none)) : Γ1 = Γ0 := by
  unfold Den.eat at he
  generalize kdO Γ0 x = g at he
  cases g <;> cases m <;> simp only [Option.some.injEq, Prod.mk.injEq, reduceCtorEq, and_false, and_true] at he <;> first | exact he.symm | (split at he <;> simp at he)
theorem eats_none : ∀ {ms : List (Option TK)} {xs : List Operand} {Γ0 Γ1 : List G} {ss : List Src}, eats ms xs Γ0 = some (Γ1, ss) → ss.all noSrc = true → Γ1 = Γ0
  | [], [], _, _, _, h, _ => by simp only [eats, Option.some.injEq, Prod.mk.injEq] at h; exact h.1.symm
  | none :: ms, x :: xs, Γ0, Γ1, ss, h, hs => by
    simp only [eats] at h
    split at h
    · rename_i h1
      simp only [Option.some.injEq, Prod.mk.injEq] at h
      obtain ⟨rfl, rfl⟩ := h
      simp only [List.all_cons, Bool.and_eq_true] at hs
      exact eats_none h1 hs.2
    · cases h
  | some m :: ms, x :: xs, Γ0, Γ1, ss, h, hs => by
    simp only [eats] at h
    split at h
    · rename_i Γm src h1
      split at h
      · rename_i h2
        simp only [Option.some.injEq, Prod.mk.injEq] at h
        obtain ⟨rfl, rfl⟩ := h
        simp only [List.all_cons, Bool.and_eq_true] at hs
        have : src = .none := by cases src <;> first | rfl | cases hs.1
        subst this
        rw [eats_none h2 hs.2, eat_none h1]
      · cases h
    · cases h
  | [], _ :: _, _, _, _, h, _ => by simp [eats] at h
  | none :: _, [], _, _, _, h, _ => by simp [eats] at h
  | some _ :: _, [], _, _, _, h, _ => by simp [eats] at h

theorem callm_sound {g : Nat} {sg : Sig} {T : Tr} {args : Array Operand} {ats : Array TypeId} {cop : COp} {Γ' : List G} (hspec : Spec X.P g sg T) (he : elabCallM sg g Γ d args.toList = some (cop, Γ')) (h : Sim X Γ s) (f : Fr X L0 w0 s.L s.w) (ho : o.dst = some d)
    (hop : o.op = .call { callee := .value (.func g), args := args, argTypes := ats })
    (hk : ∃ x xs src, cop = .callm d g sg x xs src ∧ args.toList = x :: xs ∧ argsV (limV true X.lim (eatH s.σ s.H src)) (eatH s.σ s.H src) sg.ps ((x :: xs).map (valO s.σ)) ∧
      T (limV true X.lim (eatH s.σ s.H src)) ((x :: xs).map (valO s.σ)) (eatH s.σ s.H src) fun rs _ => ∃ k v σ1 H1, rs = [k, v] ∧ v ≠ .undef ∧ backV s.σ (eatH s.σ s.H src) src v = some (σ1, H1) ∧ K (σ1.set d k) H1) : o.wp X.P s.a s.w (Good X Γ' L0 w0 K) Q := by
  obtain ⟨x, xs, src, rfl, hargs0, hav, hT⟩ := hk
  unfold elabCallM at he
  split at he
  · rename_i hc
    obtain ⟨hmu, hpure, hrs, hps, hd⟩ := hc
    rw [hargs0] at he
    simp only at he
    split at he
    · rename_i Γ1 src' ss hpre
      split at he
      · rename_i hss
        split at he
        · rename_i Γ2 hbg
          simp only [Option.some.injEq, Prod.mk.injEq, COp.callm.injEq] at he
          obtain ⟨⟨_, _, _, _, _, rfl⟩, rfl⟩ := he
          have heH : eatsH s.σ s.H (src' :: ss) = eatH s.σ s.H src' := by rw [eatsH, eatsH_none hss]
          have hav' : argsV (limV sg.pure X.lim (eatsH s.σ s.H (src' :: ss))) (eatsH s.σ s.H (src' :: ss)) sg.ps ((x :: xs).map (valO s.σ) ++ []) := by rw [heH, hpure, List.append_nil]; exact hav
          obtain ⟨L1, hΓl, _, hl, hcl, hs1, hf1, hargs⟩ := args_facts (caps := []) (ccs := []) hpre h rfl rfl (fun i hi => absurd hi (by omega)) hav'
          rw [heH] at hs1 hargs
          simp only [List.append_nil] at hl hcl hargs
          let vs := (x :: xs).map (valO s.σ)
          let cs := (x :: xs).map s.a.eval
          let s1 : S := { s with L := L1, H := eatH s.σ s.H src' }
          have hu : valO s.σ x ≠ .undef := by
            have := argsV_get hav hps (v := valO s.σ x) (by simp)
            exact this
          -- what was eaten
          obtain ⟨Γm, hea, hΓm⟩ : ∃ Γm, Den.eat .own Γ x = some (Γm, src') ∧ Γ1 = Γm := by
            unfold preCall at hpre
            split at hpre
            · rename_i hcc
              split at hpre
              · rename_i Γ3 ss3 hes
                split at hpre
                · simp only [Option.some.injEq, Prod.mk.injEq] at hpre
                  obtain ⟨rfl, rfl⟩ := hpre
                  have hms : (sg.ps.take (x :: xs).length).map PK.eat = some .own :: ((sg.ps.drop 1).take xs.length).map PK.eat := by
                    cases hpp : sg.ps with
                    | nil => rw [hpp] at hps; cases hps
                    | cons p ps =>
                      rw [hpp] at hps
                      simp only [List.getElem?_cons_zero, Option.some.injEq] at hps
                      subst hps
                      simp [PK.eat]
                  rw [hms] at hes
                  obtain ⟨Γm, h1, h2⟩ := eats_head hes
                  exact ⟨Γm, h1, eats_none h2 hss⟩
                · cases hpre
              · cases hpre
            · cases hpre
          subst hΓm
          let hd0 : Nat → Value := fun i => cs.getD i undef
          unfold Oper.wp
          have hrun : (execOp s.a.eval o).run X.P s.w = .ok (.enter g cs.toArray) s.w := by
            unfold execOp
            simp only [hop, resolve, Act.eval, Deferred.ofValue]
            simp [invoke, run_enter hspec.1]
            apply Array.ext'
            simp [cs, hargs0]
          rw [hrun, Oper.upon_enter]
          have hlim : sg.pure = true → (entryX X s1 sg.pure hd0).lim = (entryX X s1 sg.pure hd0).n0 := fun hp => by rw [entryX_n0]; simp [entryX, limV, hp]
          refine (hspec.2 (entryX X s1 sg.pure hd0) (entry X s1 sg.pure vs cs) _ rfl (hs1.entry hl hcl hargs (fun _ => ⟨hps, rfl⟩)) entryX_n0 hlim (fun _ => by
            show cs.getD 0 undef = cs.toArray.getD 0 undef
            simp [List.getD_eq_getElem?_getD, Array.getD_eq_getD_getElem?]) (by rw [← hpure] at hT; exact hT)).mono ?_
          rintro e w' ⟨s', rfl, rfl, hs', hc0, hf', H2, _, k, v, σ1, H1, hσ', hv, hbk, hK⟩
          have hrs' : sg.rs' = [.fl, .own] := by simp [Sig.rs', hmu, hrs]
          rw [hrs'] at hs'
          obtain ⟨h2, hf2, hr2⟩ := hs1.leave hs' hf' (fun j => .res j)
          let s2 := exit' X s1 s' sg.pure vs.length (fun j => .res j) hd0
          have hs2σ : s2.σ = s.σ := rfl
          have hs2a : s2.a = s.a := rfl
          have hs2H : s2.H = eatH s.σ s.H src' := by show (if sg.pure then _ else _) = _; rw [if_pos hpure]
          rw [if_pos hpure] at h2
          have hlen : s'.a.tmps.size = 2 := by rw [hs'.lenA, ← hs'.lenG]; rfl
          have hkv : s'.v 0 = k ∧ s'.v 1 = v := by simp [S.v, hσ']
          have hown := (hr2 1 .own rfl (by simp)).resolve_left (by rw [hkv.2]; exact hv)
          simp only at hown
          rw [hkv.2] at hown
          have hc1 : s'.c 1 = s.a.eval x := by
            have := hc0 hmu
            rw [hrs] at this
            rw [show s'.c 1 = _ from this]
            show cs.toArray.getD 0 undef = _
            simp [cs]
          have hkeep : ∀ q, q < s.w.heap.size → keeps (entryX X s1 sg.pure hd0) (trans sg.pure X.lim vs.length (L1 q)) → s'.w.heap[q]? = s.w.heap[q]? := fun q hq hl => (hf'.keep q hq hl).1
          obtain ⟨L3, h3, hf3⟩ := Sim.back (d := d) (s0 := s) (s1 := s2) (i := 1) (v := v) (c := s'.c 1) (σ2 := σ1) (H2 := H1) h hu hc1 hea hbg h2 rfl rfl rfl hown hv (fun r b hb => by
              obtain ⟨vals, e, q1, q2, _⟩ := h.box r b hb
              obtain ⟨b', z1, _⟩ := eatH_get (σ := s.σ) (src := src') hb
              obtain ⟨_, _, _, z2, _⟩ := hs1.box r b' z1
              change L1 (s.bm r) = .bk r at z2
              refine hkeep _ (Array.getElem?_eq_some_iff.1 q1).1 ?_
              rw [z2]
              refine .inl ?_
              show r < limV sg.pure X.lim (eatH s.σ s.H src')
              simp only [limV, if_pos hpure, eatH_len]
              exact H_lt hb) (fun q y hq hq2 => by
              rcases Nat.lt_or_ge q s.w.heap.size with hlt | hge
              · refine hkeep q hlt ?_
                change (open Classical in if q < s.w.heap.size ∧ keeps (entryX X s1 sg.pure hd0) (trans sg.pure X.lim vs.length (L1 q)) then L1 q else back (fun j => .res j) (eatH s.σ s.H src').length (s'.L q)) = .s y at hq2
                split at hq2
                · rename_i hx; exact hx.2
                · exfalso
                  cases hl : s'.L q <;> rw [hl] at hq2 <;> simp only [Den.back, reduceCtorEq] at hq2 <;> split at hq2 <;> cases hq2
              · rw [h.top q hge] at hq; cases hq) (fun r b hb => by
              rw [hs2H] at hb
              have hr : r < s.H.length := by have := H_lt hb; rwa [eatH_len] at this
              obtain ⟨b', g1, g2, _⟩ := eatH_get (σ := s.σ) (src := src') (List.getElem?_eq_getElem hr)
              rw [hb] at g1
              injection g1 with g1
              subst g1
              exact ⟨_, List.getElem?_eq_getElem hr, g2.symm⟩) (by rw [hs2σ, hs2H]; exact hbk)
          have hdl : d < Γ2.length := by rw [backG_len hbg, hΓl]; exact hd
          have hk0 : k = .undef ∨ R X.P s'.w .rep (fun _ => False) k (s'.c 0) := by
            have := hr2 0 .fl rfl (by simp)
            rw [hkv.1] at this
            exact this
          show Good X _ L0 w0 K (s.a.put o.dst _) s'.w
          rw [ho]
          have hpk : packV (if sg.mu = true then s'.a.tmps.pop else s'.a.tmps) = s'.c 0 := by
            rw [if_pos hmu]
            unfold packV
            rw [dif_pos (by simp; omega)]
            simp [S.c, Array.getD, show 0 < s'.a.tmps.size by omega]
          rw [hpk]
          exact ⟨({ s2 with σ := σ1, H := H1, L := L3 } : S).put d k (s'.c 0), rfl, rfl, h3.set hdl hk0, ((f.trans hf1).trans hf2).trans hf3, hK⟩
        · cases he
      · cases he
    · cases he
  · cases he
end
end Go.Den
set_option autoImplicit false
namespace Go.Den

/-! #### a part of a tuple -/
def extV (v : PV) (j : Nat) : Option PV := match v with
  | .tup vs => vs[j]?
  | _ => none
def elabExt (Γ : List G) (d : Nat) (x : Operand) (j : Nat) : Option (COp × List G) :=
  match x with
  | .tmp t => if t = d then none else match Γ.getD t .dead with
    | .tup ks => match ks[j]? with
      | some .fl => some (.ext d t j, setG none false d .fl Γ)
      | some .sh => some (.ext d t j, setG none false d .sh Γ)
      | some .fz => some (.ext d t j, setG none false d .fz Γ)
      | some .own => some (.ext d t j, setG none false d .own (Γ.set t (.tup (ks.set j .dd))))
      | _ => none
    | _ => none
  | _ => none

section
variable {X : Cx} {Γ : List G} {s : S} {L0 : Nat → Lab} {w0 : World} {K : KV} {o : Oper} {Q : Exit → Act → World → Prop} {d : Nat}

/-- One part of a tuple taken in hand. -/
theorem Sim.untup {t j : Nat} {ks : List TK} (h : Sim X Γ s) (hg : Γ[t]? = some (.tup ks)) {vs : List PV} (hv : s.v t = .tup vs) (hj : j < vs.length) (hk : ks[j]? = some .own) :
    ∃ L', Sim X (Γ.set t (.tup (ks.set j .dd))) { s with L := L' } ∧ Fr X s.L s.w L' s.w ∧ ∃ cs : Array Value, s.c t = .tuple cs ∧ cs.size = vs.length ∧ R X.P s.w .own (S.fp { s with L := L' } (· = .res 0)) (vs.getD j .undef) (cs.getD j undef) := by
  rcases h.slot t _ hg with hu | ⟨vs', cs, h1, h2, h3, h4, h5⟩
  · rw [hv] at hu; cases hu
  rw [hv] at h1
  injection h1 with h1
  subst h1
  let L' : Nat → Lab := fun k => if s.L k = .t t j then .res 0 else s.L k
  have hL : ∀ k, s.L k ≠ .t t j → L' k = s.L k := fun k hk => if_neg hk
  have hj5 := h5 j hj
  have hkj : ks.getD j .fl = .own := by rw [List.getD_eq_getElem?_getD, hk]; rfl
  rw [hkj] at hj5
  have htl : t < Γ.length := (List.getElem?_eq_some_iff.1 hg).1
  refine ⟨L', ⟨by simp [h.lenG], h.lenA, h.defs, fun i g hi => ?_, fun r b hb => ?_, fun k hk => ?_, h.n0⟩, ⟨rfl, rfl, rfl, Nat.le_refl _, fun k _ hl => ⟨rfl, hL k (by intro hx; rw [hx] at hl; exact hl)⟩⟩, cs, h2, h3, R.relabel (s1 := { s with L := L' }) hj5 fun k hk => ⟨show L' k = .res 0 from if_pos hk, rfl⟩⟩
  · by_cases hit : i = t
    · subst hit
      rw [List.getElem?_set_self htl] at hi
      injection hi with hi
      subst hi
      refine .inr ⟨vs, cs, hv, h2, h3, by simpa using h4, fun q hq => ?_⟩
      by_cases hqj : q = j
      · subst hqj
        have : (ks.set q .dd).getD q .fl = .dd := by
          have : q < ks.length := by omega
          simp [List.getD_eq_getElem?_getD, this]
        rw [this]; trivial
      · have e : (ks.set j .dd).getD q .fl = ks.getD q .fl := by
          simp [List.getD_eq_getElem?_getD, List.getElem?_set_ne (Ne.symm hqj)]
        rw [e]
        have hq5 := h5 q hq
        cases htk : ks.getD q .fl with
        | dd => trivial
        | fl => rw [htk] at hq5; exact hq5
        | own => rw [htk] at hq5; exact R.step (s' := { s with L := L' }) hq5 fun k hk => ⟨hL k (by rw [show s.L k = .t i q from hk]; intro hx; injection hx with _ hx; exact hqj hx), rfl⟩
        | sh => rw [htk] at hq5; exact R.step (s' := { s with L := L' }) hq5 fun k hk => ⟨hL k (by rw [show s.L k = .sh from hk]; simp), rfl⟩
        | fz => rw [htk] at hq5; exact R.step (s' := { s with L := L' }) hq5 fun k hk => ⟨hL k (by rw [show s.L k = .nw from hk]; simp), rfl⟩
    · rw [List.getElem?_set_ne (Ne.symm hit)] at hi
      refine (h.slot i g hi).out ⟨rfl, rfl, fun k hk => ⟨hL k ?_, rfl⟩, fun _ _ => ⟨rfl, rfl⟩, fun _ r b hr => ⟨b, hr, rfl, rfl, fun _ _ => ⟨rfl, rfl⟩⟩, fun _ _ _ _ _ => rfl⟩
      intro hx
      rw [hx] at hk
      cases g <;> simp [G.uses, Lab.isB] at hk
      exact hit hk.symm
  · have hbo := h.box r b hb
    refine BoxOk.step hbo ⟨hL _ ?_, rfl⟩ (fun k hk => ⟨hL k ?_, rfl⟩) (H_lt hb) (Nat.le_refl _) (fun _ _ => rfl)
    · obtain ⟨_, _, _, h2, _⟩ := hbo; rw [h2]; simp
    · rcases hk with ⟨j, hk⟩ | hk | hk <;> rw [hk] <;> simp
  · have := h.top k hk
    rw [← this]; exact hL k (by rw [this]; simp)

theorem ext_sound {x : Operand} {j : Nat} {cop : COp} {Γ' : List G} (he : elabExt Γ d x j = some (cop, Γ')) (h : Sim X Γ s) (f : Fr X L0 w0 s.L s.w) (hd : d < Γ.length) (ho : o.dst = some d) (hop : o.op = .extract x j)
    (hk : ∃ t, cop = .ext d t j ∧ optK (extV (s.σ.getD t .undef) j) fun v => K (s.σ.set d v) s.H) : o.wp X.P s.a s.w (Good X Γ' L0 w0 K) Q := by
  obtain ⟨t, rfl, hk0⟩ := hk
  obtain ⟨v, hv, hk⟩ := hk0.get
  unfold elabExt at he
  split at he
  · rename_i t'
    split at he
    · cases he
    · rename_i hne
      split at he
      · rename_i ks hgt
        have hgt' : Γ[t']? = some (.tup ks) := by
          rw [List.getD_eq_getElem?_getD] at hgt
          cases hx : Γ[t']? with
          | none => rw [hx] at hgt; cases hgt
          | some g => rw [hx] at hgt; simp only [Option.getD_some] at hgt; rw [hgt]
        have ht : t' = t := by
          split at he <;> simp only [Option.some.injEq, Prod.mk.injEq, COp.ext.injEq, reduceCtorEq] at he <;> exact he.1.2.1
        subst ht
        -- the values
        obtain ⟨vs, hvs, hj⟩ : ∃ vs, s.v t' = .tup vs ∧ vs[j]? = some v := by
          unfold extV at hv
          split at hv
          · rename_i vs e1; exact ⟨vs, e1, hv⟩
          · cases hv
        have hjl := (List.getElem?_eq_some_iff.1 hj).1
        have hvj : vs.getD j .undef = v := by rw [List.getD_eq_getElem?_getD, hj]; rfl
        have run : ∀ cs : Array Value, s.c t' = .tuple cs → cs.size = vs.length → (execOp s.a.eval o).run X.P s.w = .ok (.value (cs.getD j undef)) s.w := fun cs hc hs => by
          have hjc : j < cs.size := by omega
          have hcc : s.a.eval (.tmp t') = .tuple cs := hc
          unfold execOp
          simp [hop, hcc, Instr.extract, Array.getD, hjc]
        have plain : ∀ (tk : TK) (g : G), ks[j]? = some tk → (TkOk X.P s (.t t' j) (vs.getD j .undef) (s.c t' |> fun c => match c with | .tuple cs => cs.getD j undef | _ => undef) tk → ∀ c, (match s.c t' with | .tuple cs => cs.getD j undef | _ => undef) = c → Real X (s.put d v c) d v c g) → Γ' = setG none false d g Γ →
            o.wp X.P s.a s.w (Good X Γ' L0 w0 K) Q := by
          rintro tk g htk hg rfl
          rcases h.slot t' _ hgt' with hu | ⟨vs', cs, h1, h2, h3, h4, h5⟩
          · rw [hvs] at hu; cases hu
          rw [hvs] at h1
          injection h1 with h1
          subst h1
          have := h5 j hjl
          rw [show ks.getD j .fl = tk by rw [List.getD_eq_getElem?_getD, htk]; rfl] at this
          refine good_set h f hd ho (run cs h2 h3) (.inr (hg ?_ _ ?_)) hk
          · simp only [h2]; exact this
          · rw [h2]
        split at he
        · rename_i hkj
          simp only [Option.some.injEq, Prod.mk.injEq] at he
          exact plain .fl .fl hkj (fun ht c hc => by rw [hvj] at ht; rw [← hc]; exact ht) he.2.symm
        · rename_i hkj
          simp only [Option.some.injEq, Prod.mk.injEq] at he
          exact plain .sh .sh hkj (fun ht c hc => by rw [hvj] at ht; rw [← hc]; exact ht) he.2.symm
        · rename_i hkj
          simp only [Option.some.injEq, Prod.mk.injEq] at he
          exact plain .fz .fz hkj (fun ht c hc => by rw [hvj] at ht; rw [← hc]; exact ht) he.2.symm
        · rename_i hkj
          simp only [Option.some.injEq, Prod.mk.injEq] at he
          obtain ⟨_, rfl⟩ := he
          obtain ⟨L1, hs1, hf1, cs, h2, h3, hr⟩ := h.untup hgt' hvs hjl hkj
          rw [hvj] at hr
          obtain ⟨L2, hs2, hf2, _⟩ := hs1.ownPut (d := d) (by simp; exact hd) hr
          refine op_value (run cs h2 h3) ?_
          rw [ho]
          exact ⟨({ s with L := L2 } : S).put d v (cs.getD j undef), rfl, rfl, hs2, (f.trans hf1).trans hf2, hk⟩
        · cases he
      · cases he
  · cases he
end
end Go.Den
set_option autoImplicit false
namespace Go.Den

/-- Rows made or lengthened, in a slot. -/
theorem Sim.rowPut {X : Cx} {Γ : List G} {s : S} {d : Nat} {v : PV} {c : Value} {w' : World} {L' : Nat → Lab} (h : Sim X Γ s) (hd : d < Γ.length) (hos : w'.os = s.w.os) (htape : w'.tape = s.w.tape) (hout : w'.output = s.w.output) (hsize : s.w.heap.size ≤ w'.heap.size)
    (hL : ∀ k, k < s.w.heap.size → (∀ j, s.L k ≠ .res j) → L' k = s.L k ∧ w'.heap[k]? = s.w.heap[k]?) (htop : ∀ k, w'.heap.size ≤ k → L' k = .no)
    (new : ∀ s' : S, s' = { s with L := L', w := w' } → R X.P s'.w .own (s'.fp (· = .s d)) v c) :
    Sim X (setG none false d .own Γ) (({ s with L := L', w := w' } : S).put d v c) ∧ Fr X s.L s.w L' w' := by
  have hlt : ∀ k, s.L k ≠ .no → k < s.w.heap.size := fun k hk => by
    rcases Nat.lt_or_ge k s.w.heap.size with h1 | h1
    · exact h1
    · exact absurd (h.top k h1) hk
  have hnr : ∀ g i j, ¬ G.uses g i (.res j) := by intro g i j; cases g <;> simp [G.uses, Lab.isB]
  let s1 : S := { s with L := L', w := w' }
  have h1 : Sim X Γ s1 := by
    refine ⟨h.lenG, h.lenA, h.defs, fun i g hg => ?_, fun r b hb => ?_, fun k hk => htop k hk, h.n0⟩
    · exact (h.slot i g hg).out ⟨rfl, rfl, fun k hk => hL k (hlt k (by intro hx; rw [hx] at hk; exact uses_no hk)) (fun j hj => by rw [hj] at hk; exact hnr g i j hk), fun _ _ => ⟨rfl, rfl⟩, fun _ r b hr => by
        obtain ⟨vals', e', g1, g2, _⟩ := h.box r b hr
        exact ⟨b, hr, rfl, rfl, fun _ _ => ⟨rfl, (hL _ (Array.getElem?_eq_some_iff.1 g1).1 (by rw [g2]; simp)).2⟩⟩, by
        rintro m r j rfl hrj
        rcases h.slot i _ hg with hu | hu
        · rw [hrj] at hu; cases hu
        · obtain ⟨r', b, vals', e', p1, p2, p3, p4, p5, p6, p7⟩ := hu
          rw [hrj] at p1; injection p1 with p1 _; subst p1
          obtain ⟨_, _, _, g2, _⟩ := h.box r b p3
          exact (hL _ (Array.getElem?_eq_some_iff.1 p6).1 (by rw [g2]; simp)).2⟩
    · obtain ⟨_, _, g1, g2, _⟩ := h.box r b hb
      refine BoxOk.step (h.box r b hb) (hL _ (Array.getElem?_eq_some_iff.1 g1).1 (by rw [g2]; simp)) (fun k hk => hL k (hlt k ?_) ?_) (H_lt hb) (Nat.le_refl _) (fun _ _ => rfl)
      · rcases hk with ⟨j, hk⟩ | hk | hk <;> rw [hk] <;> simp
      · rcases hk with ⟨j, hk⟩ | hk | hk <;> rw [hk] <;> simp
  refine ⟨h1.set hd (.inr (new s1 rfl)), ⟨hos, htape, hout, hsize, fun k hk hl => ?_⟩⟩
  obtain ⟨g1, g2⟩ := hL k hk (fun j hj => by rw [hj] at hl; exact hl)
  exact ⟨g2, g1⟩
end Go.Den
set_option autoImplicit false
namespace Go.Den

/-- The append, its three ways told. -/
theorem run_app {P : Program} (w : World) {t ty e : TypeId} {i : TypeInfo} {z : Value} (ht : P.underlying t = some (.slice e)) (hi : P.info? e = some i) (hz : i.zero = some z) (hzs : z.cells.size = i.size) (hsz : 0 < i.size)
    (v : Value) (n : Nat) (xs : List Value) (hown : w.ownsRow 0 e i.size v n xs) (a : Addr) (m c : Nat) (news : List Value) (hl : news.length = m * i.size) (hnews : ∀ j u, news[j]? = some u → w.cell? (a.add j) = some u) (h1 : ∀ u ∈ news, u.oneCell' = true)
    (h63 : n + m ≤ maxLen) (hbytes : (n + m) * i.bytes ≤ 140737488355328) :
    ∃ v' w', (Builtin.append_ #[t, t] ty #[v, .slice (some a) m c]).run P w = .ok v' w' ∧ w'.os = w.os ∧ w'.tape = w.tape ∧ w'.output = w.output ∧ w.heap.size ≤ w'.heap.size ∧
      ((v = .slice none 0 0 ∧ m = 0 ∧ v' = .slice none 0 0 ∧ w' = w) ∨
       ∃ g cap cur, v' = .slice (some ⟨g, 0, none⟩) (n + m) cap ∧ (v = .slice none 0 0 → 0 < m) ∧ w'.heap[g]? = some (.cells cur e (0, 0)) ∧ n + m ≤ cap ∧ cap ≤ maxLen ∧ cur.size = cap * i.size ∧ cur.toList.take ((n + m) * i.size) = xs ++ news ∧
         (∀ k, k ≠ g → k < w.heap.size → w'.heap[k]? = w.heap[k]?) ∧ ((v.ownBlock = some g ∧ w'.heap.size = w.heap.size) ∨ (g = w.heap.size ∧ w'.heap.size = w.heap.size + 1))) := by
  have hsmall : n + m ≤ 9223372036854775807 := by simp only [maxLen] at h63; omega
  have hlen : (xs ++ news).length = (n + m) * i.size := by rw [List.length_append, hown.1, hl, Nat.add_mul]
  have grown : ∀ (old : Nat), old < n + m → ∃ cap cur, (w.drew.alloc (.cells (xs.toArray ++ news.toArray ++ Builtin.zeroCells z.cells (grownCap w (n + m) old e - (n + m))) e)).heap[w.heap.size]? = some (.cells cur e (0, 0)) ∧ cap = grownCap w (n + m) old e ∧ n + m ≤ cap ∧ cap ≤ maxLen ∧ cur.size = cap * i.size ∧ cur.toList.take ((n + m) * i.size) = xs ++ news := by
    intro old ho
    have hge := grownCap_ge w (n + m) old e
    have hcm : grownCap w (n + m) old e ≤ maxLen := grownCap_le_maxLen w (n + m) old e h63
    refine ⟨_, _, heap_alloc_new w.drew _, rfl, hge, hcm, ?_, ?_⟩
    · simp only [Array.size_append, List.size_toArray, size_zeroCells, hzs, hown.1, hl, ← Nat.add_mul]
      congr 1
      omega
    · simp only [Array.toList_append, List.append_assoc]
      rw [← List.append_assoc, ← hlen]
      exact List.take_left
  have hdsz : ∀ o, (w.drew.alloc o).heap.size = w.heap.size + 1 := fun o => alloc_size w.drew o
  have hdold : ∀ o k, k < w.heap.size → (w.drew.alloc o).heap[k]? = w.heap[k]? := fun o k hk => heap_alloc_old w.drew o k hk
  rcases hown.2 with ⟨rfl, rfl⟩ | ⟨g, cap, cur, rfl, _, hg, hnc, hcm, hcs, htake⟩
  · have hx : xs = [] := List.eq_nil_of_length_eq_zero (by simpa using hown.1)
    subst hx
    by_cases hm : m = 0
    · subst hm
      have hn : news = [] := List.eq_nil_of_length_eq_zero (by simpa using hl)
      subst hn
      refine ⟨.slice none 0 0, w, ?_, rfl, rfl, rfl, Nat.le_refl _, .inl ⟨rfl, rfl, rfl, rfl⟩⟩
      simp [Builtin.append_, run_underlying ht, sizeOf, typeInfo, hi, Builtin.lenOf, Builtin.firstCells, loadCells, loadCellsFrom]
    · have hr := run_append_nil (P := P) w t ty e i z ht hi hz a m c news hl hnews (by omega) (by omega) (by have hb := hbytes; simp only [Nat.zero_add] at hb; omega)
      obtain ⟨cap, cur, q1, q2, q3, q4, q5, q6⟩ := grown 0 (by omega)
      simp only [Nat.zero_add, List.nil_append, Array.empty_append] at q1 q2 q3 q5 q6 hr ⊢
      refine ⟨_, _, hr, rfl, rfl, rfl, by rw [hdsz]; omega, .inr ⟨w.heap.size, cap, cur, by rw [q2], fun _ => by omega, q1, q3, q4, q5, q6, fun k _ hk => hdold _ k hk, .inr ⟨rfl, hdsz _⟩⟩⟩
  · by_cases hroom : n + m ≤ cap
    · have hfit : n * i.size + news.length ≤ cur.size := by rw [hl, hcs, ← Nat.add_mul]; exact Nat.mul_le_mul_right _ hroom
      have hr := run_append_room (P := P) w t ty e i ht hi g n cap cur hg a m c news hl hnews h1 hroom hfit
      refine ⟨_, _, hr, rfl, rfl, rfl, by simp, .inr ⟨g, cap, _, rfl, fun h => by simp at h, setRow_heap w g cur _ e _ hg, hroom, hcm, ?_, ?_, fun k hk _ => setRow_other w g k _ hk, .inl ⟨by simp [Value.ownBlock], by simp⟩⟩⟩
      · simp only [List.size_toArray, List.length_append, List.length_take, List.length_drop, Array.length_toList]
        omega
      · rw [htake, ← hlen]
        exact List.take_left
    · have holds : ∀ j u, xs[j]? = some u → w.cell? ((⟨g, 0, none⟩ : Addr).add j) = some u := hown.cells (g := g) rfl
      have hr := run_append_grow (P := P) w t ty e i z ht hi hz ⟨g, 0, none⟩ n cap xs hown.1 holds a m c news hl hnews (by omega) (by omega) (growslice_fits (by omega) hbytes)
      obtain ⟨cap', cur', q1, q2, q3, q4, q5, q6⟩ := grown cap (by omega)
      exact ⟨_, _, hr, rfl, rfl, rfl, by rw [hdsz]; omega, .inr ⟨w.heap.size, cap', cur', by rw [q2], fun h => by simp at h, q1, q3, q4, q5, q6, fun k _ hk => hdold _ k hk, .inr ⟨rfl, hdsz _⟩⟩⟩

/-- A nil slice appended to a row of one's own: nothing. -/
theorem run_app_none {P : Program} (w : World) {t ty e : TypeId} {i : TypeInfo} (ht : P.underlying t = some (.slice e)) (hi : P.info? e = some i) (v : Value) (n : Nat) (xs : List Value) (hown : w.ownsRow 0 e i.size v n xs) :
    (Builtin.append_ #[t, t] ty #[v, .slice none 0 0]).run P w = .ok v w := by
  rcases hown.2 with ⟨rfl, rfl⟩ | ⟨g, cap, cur, rfl, _, hg, hnc, hcm, hcs, htake⟩
  · simp [Builtin.append_, run_underlying ht, sizeOf, typeInfo, hi, Builtin.lenOf, Builtin.firstCells, loadCells, loadCellsFrom]
  · simp [Builtin.append_, run_underlying ht, sizeOf, typeInfo, hi, Builtin.lenOf, Builtin.firstCells, loadCells, loadCellsFrom, hnc, storeCells]
end Go.Den
set_option autoImplicit false
namespace Go.Den

/-! #### append -/
def rowOf (e : Nat) : PV → Option (List PV)
  | .nil => some []
  | .sl e' xs => if e' = e then some xs else none
  | _ => none
def appOk (by_ : Nat) (fl : Bool) (xs ys : List PV) : Prop :=
  (xs.length + ys.length) * by_ ≤ 140737488355328 ∧ xs.length + ys.length ≤ 9223372036854775807 ∧ (ys.all fun y => y.cells.all PV.def1) = true ∧ (fl = true → ys.all PV.isFlat = true)
instance (by_ : Nat) (fl : Bool) (xs ys : List PV) : Decidable (appOk by_ fl xs ys) := by unfold appOk; exact inferInstance
def appRes (e : Nat) (vx : PV) (xs ys : List PV) : PV := match vx, ys with
  | .nil, [] => .nil
  | _, _ => .sl e (xs ++ ys)
def appV (e by_ : Nat) (fl : Bool) (vx vy : PV) : Option PV :=
  match rowOf e vx, rowOf e vy with
  | some xs, some ys => if appOk by_ fl xs ys then some (appRes e vx xs ys) else none
  | _, _ => none
def elabApp (E : Env) (Γ : List G) (d : Nat) (T : TypeId) (x y : Operand) : Option (COp × List G) :=
  match E.P.underlying T with
  | some (.slice e) => match E.P.info? e with
    | some i => match i.zero with
      | some z => if z.cells.size = i.size ∧ 0 < i.size then
          (match eats [some .own, if flatTy E.P e then none else some .own] [x, y] Γ with
          | some (Γ1, ss) => if flatTy E.P e = false ∨ ((kdO Γ1 y).data (slotO y)).isSome = true then some (.app d e i.bytes (flatTy E.P e) x y ss, setG none false d .own Γ1) else none
          | none => none) else none
      | none => none
    | none => none
  | _ => none

section
variable {X : Cx} {Γ : List G} {s : S} {L0 : Nat → Lab} {w0 : World} {K : KV} {o : Oper} {Q : Exit → Act → World → Prop} {d : Nat}

/-- The appended row's cells, read. -/
def NewRow (P : Program) (w : World) (e : Nat) (ys : List PV) (cy : Value) (own : Bool) (fp : Nat → Prop) : Prop :=
  (cy = .slice none 0 0 ∧ ys = []) ∨ ∃ (ad : Addr) (cap : Nat) (news : List Value) (lab : Nat → Nat), cy = .slice (some ad) ys.length cap ∧ news.length = ys.length * P.cellsOf e ∧ (∀ j u, news[j]? = some u → w.cell? (ad.add j) = some u) ∧
    (∀ y ∈ ys, y.cells.length = P.cellsOf e) ∧ ∀ q, q < (flatten ys).length → if own then R P w .own (fun k => fp k ∧ lab k = q) ((flatten ys).getD q .undef) (news.getD q undef) else R P w .rep (fun _ => False) ((flatten ys).getD q .undef) (news.getD q undef)

theorem NewRow.of {P : Program} {w : World} {e : Nat} {m : M} {fp fp' : Nat → Prop} {v : PV} {ys : List PV} {c : Value} (h : R P w m fp v c) (hr : rowOf e v = some ys) (hfl : ys.all PV.isFlat = true) : NewRow P w e ys c false fp' := by
  unfold rowOf at hr
  split at hr
  · injection hr with hr; subst hr
    exact .inl ⟨h.nil_inv, rfl⟩
  · rename_i e' xs
    split at hr
    · rename_i he
      injection hr with hr; subst hr; subst he
      right
      cases h with
      | flat h => simp [PV.flat] at h
      | row lab cs hsz hpos hrow hfp hc =>
        obtain ⟨ad, cap, rfl, h1, h2, h3, h4⟩ := hrow.rep
        refine ⟨ad, cap, cs, fun _ => 0, rfl, h3, h4, hsz, fun q hq => ?_⟩
        rw [if_neg (by simp)]
        refine R.ofFlat (hc q hq) ?_
        have hm : (flatten xs).getD q .undef ∈ flatten xs := by
          rw [List.getD_eq_getElem?_getD, List.getElem?_eq_getElem hq]; exact List.getElem_mem hq
        obtain ⟨x, hx, hxc⟩ := List.mem_flatMap.1 hm
        simp only [List.all_eq_true] at hfl
        have := hfl x hx
        revert hxc this
        generalize (flatten xs).getD q .undef = u
        cases x <;> simp only [PV.cells, List.mem_singleton, PV.isFlat, List.all_eq_true] <;> intro hu hf <;> first | (subst hu; exact hf) | (subst hu; rfl) | (have := hf u hu; cases u <;> simp at this <;> rfl) | cases hf
    · cases hr
  · cases hr
theorem NewRow.own {P : Program} {w : World} {e : Nat} {fp : Nat → Prop} {v : PV} {ys : List PV} {c : Value} (h : R P w .own fp v c) (hr : rowOf e v = some ys) : NewRow P w e ys c true fp := by
  unfold rowOf at hr
  split at hr
  · injection hr with hr; subst hr
    exact .inl ⟨h.nil_inv, rfl⟩
  · rename_i e' xs
    split at hr
    · rename_i he
      injection hr with hr; subst hr; subst he
      right
      cases h with
      | flat h => simp [PV.flat] at h
      | row lab cs hsz hpos hrow hfp hc =>
        obtain ⟨ad, cap, rfl, h1, h2, h3, h4⟩ := RowOk.rep hrow
        refine ⟨ad, cap, cs, lab, rfl, h3, h4, hsz, fun q hq => ?_⟩
        rw [if_pos rfl]
        exact (hc q hq).mono fun k hk => ⟨hk.1, hk.2.2⟩
    · cases hr
  · cases hr

theorem exec_app {P : Program} {a : Act} {w w' : World} {T : TypeId} {x y : Operand} {v' : Value} (hop : o.op = .call { callee := .builtin .append, args := #[x, y], argTypes := #[T, T] }) (hr : (Builtin.append_ #[T, T] o.type #[a.eval x, a.eval y]).run P w = .ok v' w') :
    (execOp a.eval o).run P w = .ok (.value v') w' := by
  unfold execOp
  simp only [hop, resolve, invoke, builtin, Sem.run_bind, Sem.run_pure, Result.andThen_ok, List.map_toArray, List.map_cons, List.map_nil, hr]
theorem flatten_append (xs ys : List PV) : flatten (xs ++ ys) = flatten xs ++ flatten ys := by simp [flatten]

theorem app_sound {E : Env} {T : TypeId} {x y : Operand} {cop : COp} {Γ' : List G} (hE : E.P = X.P) (he : elabApp E Γ d T x y = some (cop, Γ')) (h : Sim X Γ s) (f : Fr X L0 w0 s.L s.w) (hd : d < Γ.length) (ho : o.dst = some d) (hop : o.op = .call { callee := .builtin .append, args := #[x, y], argTypes := #[T, T] })
    (hk : ∃ e by_ fl ss, cop = .app d e by_ fl x y ss ∧ optK (appV e by_ fl (valO s.σ x) (valO s.σ y)) fun v => K (s.σ.set d v) (eatsH s.σ s.H ss)) : o.wp X.P s.a s.w (Good X Γ' L0 w0 K) Q := by
  obtain ⟨e, by_, fl, ss, rfl, hk0⟩ := hk
  obtain ⟨v, hv, hk⟩ := hk0.get
  clear hk0
  unfold elabApp at he
  rw [hE] at he
  split at he
  · rename_i e' hT
    split at he
    · rename_i i hi
      split at he
      · rename_i z hz
        split at he
        · rename_i hzz
          split at he
          · rename_i Γ1 ss' hea
            split at he
            · rename_i hyk
              simp only [Option.some.injEq, Prod.mk.injEq, COp.app.injEq] at he
              obtain ⟨⟨_, rfl, rfl, rfl, _, _, rfl⟩, rfl⟩ := he
              obtain ⟨hzs, hpos⟩ := hzz
              have hce : X.P.cellsOf e' = i.size := by unfold Program.cellsOf; rw [hi]; rfl
              unfold appV at hv
              split at hv
              · rename_i xs ys hxs hys
                split at hv
                · rename_i hok
                  injection hv with hv
                  obtain ⟨hb, hm63, hdef, hflat⟩ := hok
                  have hxu : valO s.σ x ≠ .undef := by intro hu; rw [hu] at hxs; cases hxs
                  have hyu : valO s.σ y ≠ .undef := by intro hu; rw [hu] at hys; cases hys
                  obtain ⟨L1, hs1, hh, hf1, _⟩ := Sim.eats _ _ Γ Γ1 s ss' 0 h hea (fun j m u hm hu => by
                    right
                    cases j with
                    | zero => simp at hu; subst hu; exact hxu
                    | succ j => cases j with
                      | zero => simp at hu; subst hu; exact hyu
                      | succ j => simp at hu)
                  let s1 : S := { s with L := L1, H := eatsH s.σ s.H ss' }
                  have hX : R X.P s.w .own (fun k => L1 k = .res 0) (valO s.σ x) (s.a.eval x) := hh 0 .own x rfl rfl
                  -- the row in hand
                  have hown : ∃ (cx : List Value) (labx : Nat → Nat), s.w.ownsRow 0 e' i.size (s.a.eval x) xs.length cx ∧ (∀ k, (s.a.eval x).ownBlock = some k → L1 k = .res 0) ∧ (∀ u ∈ xs, u.cells.length = i.size) ∧ (s.a.eval x = .slice none 0 0 ↔ valO s.σ x = .nil) ∧
                      ∀ q, q < (flatten xs).length → R X.P s.w .own (fun k => L1 k = .res 0 ∧ some k ≠ (s.a.eval x).ownBlock ∧ labx k = q) ((flatten xs).getD q .undef) (cx.getD q undef) := by
                    unfold rowOf at hxs
                    split at hxs
                    · rename_i hvx
                      injection hxs with hxs; subst hxs
                      rw [hvx] at hX
                      have hc := hX.nil_inv
                      rw [hc]
                      exact ⟨[], fun _ => 0, World.ownsRow_nil s.w 0 e' i.size, fun k hk => by simp [Value.ownBlock] at hk, fun u hu => by simp at hu, ⟨fun _ => hvx, fun _ => rfl⟩, fun q hq => by simp [flatten] at hq⟩
                    · rename_i e2 xs2 hvx
                      split at hxs
                      · rename_i hee
                        injection hxs with hxs; subst hxs; subst hee
                        rw [hvx] at hX
                        obtain ⟨g, cap, cur, lab, hc, hh2, h1, h2, h3, hfp, hsz, hpos2, hcl⟩ := hX.own_inv
                        rw [hce] at h3 hsz
                        have hle : xs2.length * i.size ≤ cur.size := by rw [h3]; exact Nat.mul_le_mul_right _ h1
                        rw [hc]
                        refine ⟨cur.toList.take (xs2.length * i.size), lab, ⟨by simp; omega, .inr ⟨g, cap, cur, rfl, Nat.zero_le _, hh2, h1, h2, h3, rfl⟩⟩, fun k hk => by simp [Value.ownBlock] at hk; subst hk; exact hfp, hsz, ⟨fun h => (by cases h), fun h => (by rw [hvx] at h; cases h)⟩, fun q hq => ?_⟩
                        have hq' : q < xs2.length * i.size := by rw [← flatten_len hsz]; exact hq
                        have e3 : (cur.toList.take (xs2.length * i.size)).getD q undef = cur.getD q undef := by
                          have : q < cur.size := by omega
                          simp [List.getD_eq_getElem?_getD, Array.getD_eq_getD_getElem?, List.getElem?_take, hq']
                        rw [e3]
                        exact (hcl q hq).mono fun k hk => ⟨hk.1, by simpa [Value.ownBlock] using hk.2.1, hk.2.2⟩
                      · cases hxs
                    · cases hxs
                  -- what is appended
                  have hY : NewRow X.P s.w e' ys (s.a.eval y) (!flatTy X.P e') (fun k => L1 k = .res 1) := by
                    cases hft : flatTy X.P e' with
                    | true =>
                      have hdat := (hyk.resolve_left (by rw [hft]; simp))
                      obtain ⟨p, hp⟩ := Option.isSome_iff_exists.1 hdat
                      have hr := data_of (s := s1) hs1 hp rfl hyu
                      exact NewRow.of hr hys (hflat hft)
                    | false =>
                      rw [hft] at hh
                      exact NewRow.own (hh 1 .own y rfl rfl) hys
                  obtain ⟨cx, labx, hown, hob, hszx, hnil, hcx⟩ := hown
                  have hd1 : d < Γ1.length := by rw [hs1.lenG, ← h.lenG]; exact hd
                  have hlt : ∀ k j, L1 k = .res j → k < s.w.heap.size := fun k j hk => by
                    rcases Nat.lt_or_ge k s.w.heap.size with h1 | h1
                    · exact h1
                    · have := hs1.top k h1; change L1 k = .no at this; rw [this] at hk; cases hk
                  let L2 : Option Nat → Nat → Lab := fun nb k => if some k = nb then .s d else match L1 k with | .res _ => .s d | l => l
                  have hL2r : ∀ nb k j, L1 k = .res j → L2 nb k = .s d := fun nb k j hk => by simp only [L2]; split <;> simp [hk]
                  have hL2n : ∀ nb k, some k ≠ nb → (∀ j, L1 k ≠ .res j) → L2 nb k = L1 k := fun nb k hk hr => by
                    simp only [L2]
                    cases hl : L1 k <;> first | exact absurd hl (hr _) | exact if_neg hk
                  -- nothing changes
                  have still : valO s.σ x = v → (execOp s.a.eval o).run X.P s.w = .ok (.value (s.a.eval x)) s.w → o.wp X.P s.a s.w (Good X (setG none false d .own Γ1) L0 w0 K) Q := by
                    intro hvx hrun
                    obtain ⟨hs2, hf2⟩ := hs1.rowPut (d := d) (v := v) (c := s.a.eval x) (w' := s.w) (L' := L2 none) hd1 rfl rfl rfl (Nat.le_refl _) (fun k _ hj => ⟨hL2n none k (by simp) hj, rfl⟩)
                      (fun k hk => (hL2n none k (by simp) (fun j hj => by have := hs1.top k hk; change L1 k = .no at this; rw [this] at hj; cases hj)).trans (hs1.top k hk)) (by
                        rintro s' rfl
                        rw [← hvx]
                        exact R.relabel (s := s1) (s1 := { s1 with L := L2 none }) (p := (· = .res 0)) (q := (· = .s d)) hX fun k hk => ⟨hL2r none k 0 hk, rfl⟩)
                    refine op_value hrun ?_
                    rw [ho]
                    exact ⟨({ s1 with L := L2 none, w := s.w } : S).put d v (s.a.eval x), rfl, rfl, hs2, (f.trans hf1).trans hf2, hk⟩
                  rcases hY with ⟨hy0, rfl⟩ | ⟨ad, cap2, news, laby, hyc, hnl, hnc, hszy, hny⟩
                  · refine still ?_ (exec_app hop ?_)
                    · rw [← hv]
                      unfold rowOf at hxs
                      split at hxs
                      · rename_i hvx; rw [hvx]; rfl
                      · rename_i e2 xs2 hvx
                        split at hxs
                        · rename_i hee; injection hxs with hxs; subst hxs; subst hee; rw [hvx]; simp [appRes]
                        · cases hxs
                      · cases hxs
                    · rw [hy0]; exact run_app_none s.w hT hi _ _ _ hown
                  · rw [hce] at hnl hszy
                    have hfx : (flatten xs).length = xs.length * i.size := flatten_len hszx
                    have hfy : (flatten ys).length = ys.length * i.size := flatten_len hszy
                    have hone : ∀ u ∈ news, u.oneCell' = true := by
                      intro u hu
                      obtain ⟨q, hq, rfl⟩ := List.getElem_of_mem hu
                      have hq' : q < (flatten ys).length := by rw [hfy, ← hnl]; exact hq
                      have hmem : (flatten ys).getD q .undef ∈ flatten ys := by
                        rw [List.getD_eq_getElem?_getD, List.getElem?_eq_getElem hq']; exact List.getElem_mem hq'
                      obtain ⟨yy, hyy, hyy2⟩ := List.mem_flatMap.1 hmem
                      simp only [List.all_eq_true] at hdef
                      have hd1 := hdef yy hyy _ hyy2
                      have := hny q hq'
                      have e : news.getD q undef = news[q] := by rw [List.getD_eq_getElem?_getD, List.getElem?_eq_getElem hq]; rfl
                      rw [e] at this
                      split at this
                      · exact R.oneCell this hd1
                      · exact R.oneCell this hd1
                    obtain ⟨v', w', hr, p1, p2, p3, p4, hcase⟩ := run_app (P := X.P) (ty := o.type) s.w hT hi hz hzs hpos (s.a.eval x) xs.length cx hown ad ys.length cap2 news hnl hnc hone (by simp only [maxLen]; omega) hb
                    have hrun := exec_app (P := X.P) (a := s.a) (w := s.w) (w' := w') (v' := v') hop (by rw [hyc]; exact hr)
                    rcases hcase with ⟨q1, q2, q3, q4⟩ | ⟨g, cap, cur, q1, q2, q3, q4, q5, q6, q7, q8, q9⟩
                    · subst q4
                      have hyn : ys = [] := List.eq_nil_of_length_eq_zero q2
                      subst hyn
                      refine still ?_ (by rw [hrun, q3, q1])
                      rw [← hv, hnil.1 q1]; rfl
                    · -- a row of n + m
                      have hvs : v = .sl e' (xs ++ ys) := by
                        rw [← hv]
                        unfold appRes
                        split
                        · rename_i hvx
                          exact absurd (q2 (hnil.2 hvx)) (by simp)
                        · rfl
                      have hgk : ∀ k j, L1 k = .res j → (j = 0 → some k ≠ (s.a.eval x).ownBlock) → k ≠ g := by
                        rintro k j hk hj rfl
                        rcases q9 with ⟨r1, _⟩ | ⟨r1, _⟩
                        · have := hob k r1
                          rw [hk] at this; injection this with this
                          exact hj this r1.symm
                        · have := hlt k j hk; omega
                      have hgs : g < w'.heap.size := (Array.getElem?_eq_some_iff.1 q3).1
                      let lab2 : Nat → Nat := fun k => match L1 k with | .res 0 => labx k | .res 1 => (flatten xs).length + laby k | _ => 0
                      obtain ⟨hs2, hf2⟩ := hs1.rowPut (d := d) (v := v) (c := v') (w' := w') (L' := L2 (some g)) hd1 p1 p2 p3 p4
                        (fun k hk hj => by
                          have hkg : k ≠ g := by
                            rintro rfl
                            rcases q9 with ⟨r1, _⟩ | ⟨r1, _⟩
                            · exact hj 0 (hob k r1)
                            · change k < s.w.heap.size at hk; omega
                          exact ⟨hL2n (some g) k (by simpa using hkg) hj, q8 k hkg hk⟩)
                        (fun k hk => by
                          have hks : s.w.heap.size ≤ k := Nat.le_trans p4 hk
                          have := hs1.top k hks
                          exact (hL2n (some g) k (by simp; omega) (fun j hj => by change L1 k = .no at this; rw [this] at hj; cases hj)).trans this)
                        (by
                          rintro s' rfl
                          rw [hvs, q1]
                          have hlen : (xs ++ ys).length = xs.length + ys.length := by simp
                          have hsz2 : ∀ u ∈ xs ++ ys, u.cells.length = X.P.cellsOf e' := fun u hu => by
                            rw [hce]
                            rcases List.mem_append.1 hu with hu | hu
                            · exact hszx u hu
                            · exact hszy u hu
                          have := R.own_mk (P := X.P) (w := w') (fp := S.fp { s1 with L := L2 (some g), w := w' } (· = .s d)) (e := e') (xs := xs ++ ys) (g := g) (cap := cap) (cur := cur) lab2 q3 (by rw [hlen]; exact q4) q5 (by rw [hce]; exact q6) (show L2 (some g) g = .s d from if_pos rfl) hsz2 (by omega) (fun q hq => by
                            rw [flatten_append, List.length_append] at hq
                            have hcur : cur.getD q undef = (cx ++ news).getD q undef := by
                              rw [← q7]
                              have hqs : q < (xs.length + ys.length) * i.size := by rw [Nat.add_mul, ← hfx, ← hfy]; exact hq
                              simp [List.getD_eq_getElem?_getD, Array.getD_eq_getD_getElem?, List.getElem?_take, hqs]
                            rw [flatten_append, hcur]
                            have hcxl : cx.length = (flatten xs).length := by rw [hown.1, hfx]
                            simp only [List.getD_eq_getElem?_getD]
                            by_cases hqx : q < (flatten xs).length
                            · rw [List.getElem?_append_left hqx, List.getElem?_append_left (by rw [hcxl]; exact hqx)]
                              have := hcx q hqx
                              simp only [List.getD_eq_getElem?_getD] at this
                              refine (R.frame this fun k hk => q8 k (hgk k 0 hk.1 fun _ => hk.2.1) (hlt k 0 hk.1)).mono fun k hk => ⟨hL2r (some g) k 0 hk.1, by simpa using hgk k 0 hk.1 fun _ => hk.2.1, ?_⟩
                              simp only [lab2, hk.1]; exact hk.2.2
                            · rw [List.getElem?_append_right (by omega), List.getElem?_append_right (by rw [hcxl]; omega), hcxl]
                              have := hny (q - (flatten xs).length) (by omega)
                              simp only [List.getD_eq_getElem?_getD] at this
                              split at this
                              · refine (R.frame this fun k hk => q8 k (hgk k 1 hk.1 fun h => by cases h) (hlt k 1 hk.1)).mono fun k hk => ⟨hL2r (some g) k 1 hk.1, by simpa using hgk k 1 hk.1 fun h => (by cases h), ?_⟩
                                simp only [lab2, hk.1, hk.2]; omega
                              · exact this.nowhere fun _ h => h)
                          rw [hlen] at this
                          exact this)
                      refine op_value hrun ?_
                      rw [ho]
                      exact ⟨({ s1 with L := L2 (some g), w := w' } : S).put d v v', rfl, rfl, hs2, (f.trans hf1).trans hf2, hk⟩
                · cases hv
              · cases hv
            · cases he
          · cases he
        · cases he
      · cases he
    · cases he
  · cases he
end
end Go.Den
set_option autoImplicit false
namespace Go.Den

/-! #### parts of slices and strings, read -/
def boundV (v : Option PV) (dflt : Nat) : Option Nat := match v with
  | none => some dflt
  | some (.int _ n) => if 0 ≤ n then some n.toNat else none
  | some _ => none
def sliV (e : Nat) (x : PV) (lo hi mx : Option PV) : Option PV :=
  match x with
  | .sl e' xs => match boundV lo 0, boundV hi xs.length, boundV mx xs.length with
    | some l, some h, some m => if e' = e ∧ l ≤ h ∧ h ≤ m ∧ m ≤ xs.length ∧ (hi = none → mx = none) then some (.sl e ((xs.take h).drop l)) else none
    | _, _, _ => none
  | .nil => match boundV lo 0, boundV hi 0, boundV mx 0 with
    | some 0, some 0, some 0 => if hi = none → mx = none then some .nil else none
    | _, _, _ => none
  | _ => none
def sslV (x : PV) (lo hi : Option PV) : Option PV :=
  match x with
  | .str s => match boundV lo 0, boundV hi s.size with
    | some l, some h => if l ≤ h ∧ h ≤ s.size then some (.str (s.extract l h)) else none
    | _, _ => none
  | _ => none
def sliKind : G → Nat → Option G
  | .own, t => some (.rd t)
  | .al x, _ => some (.rd x)
  | .rd x, _ => some (.rd x)
  | .sh, _ => some .sh
  | .fz, _ => some .rn
  | .rn, _ => some .rn
  | .bal _ _, _ => some .brd
  | .brd, _ => some .brd
  | .fl, _ => some .fl
  | .mo _, t => some (.rd t)
  | .eal x _, _ => some (.rd x)
  | _, _ => none
def flO (Γ : List G) : Option Operand → Bool
  | none => true
  | some x => kdO Γ x == .fl
def elabSli (E : Env) (Γ : List G) (d : Nat) (T : TypeId) (x : Operand) (lo hi mx : Option Operand) : Option (COp × List G) :=
  if flO Γ lo = true ∧ flO Γ hi = true ∧ flO Γ mx = true then
    match E.P.underlying T with
    | some .string => if kdO Γ x = .fl ∧ mx.isNone = true then some (.ssl d x lo hi, setG none false d .fl Γ) else none
    | some (.slice e) => if (E.P.info? e).isSome = true then
        match sliKind (kdO Γ x) (slotO x) with
        | some (.rd y) => if y = d then none else some (.sli d e x lo hi mx, setG none false d (.rd y) Γ)
        | some g => some (.sli d e x lo hi mx, setG none false d g Γ)
        | none => none
      else none
    | _ => none
  else none

section
variable {X : Cx} {Γ : List G} {s : S} {L0 : Nat → Lab} {w0 : World} {K : KV} {o : Oper} {Q : Exit → Act → World → Prop} {d : Nat}

theorem bound_of {lo : Option Operand} {dflt n : Nat} (h : Sim X Γ s) (hf : flO Γ lo = true) (hb : boundV (lo.map (valO s.σ)) dflt = some n) :
    (lo = none ∧ n = dflt) ∨ ∃ x k i, lo = some x ∧ s.a.eval x = .int k i ∧ 0 ≤ i ∧ n = i.toNat := by
  cases lo with
  | none => left; simpa [boundV] using hb.symm
  | some x =>
    right
    simp only [Option.map_some, boundV] at hb
    split at hb
    · rename_i hh; cases hh
    · rename_i k i hh
      injection hh with hh
      split at hb
      · rename_i h0
        injection hb with hb
        exact ⟨x, k, i, rfl, (fl_of h (by simpa [flO] using hf) hh (by simp)).int_inv, h0, hb.symm⟩
      · cases hb
    · cases hb

theorem run_bounds {P : Program} {w : World} {isSl : Bool} {len cap l h m : Nat} {lo hi mx : Option Value} (hlo : (lo = none ∧ l = 0) ∨ ∃ k i, lo = some (.int k i) ∧ 0 ≤ i ∧ l = i.toNat) (hhi : (hi = none ∧ h = len) ∨ ∃ k i, hi = some (.int k i) ∧ 0 ≤ i ∧ h = i.toNat)
    (hmx : (mx = none ∧ m = cap) ∨ ∃ k i, mx = some (.int k i) ∧ 0 ≤ i ∧ m = i.toNat) (h1 : l ≤ h) (h2 : h ≤ m) (h3 : m ≤ cap) (hn : hi = none → mx = none) :
    (Instr.sliceBounds isSl len cap lo hi mx).run P w = .ok (l, h, m) w := by
  have e1 : ∀ k i y c, 0 ≤ i → i.toNat ≤ y → (Instr.sliceBound (.int k i) y c).run P w = .ok i.toNat w := fun k i y c h0 hy => run_sliceBound (P := P) w k i y c h0 (by omega)
  rcases hlo with ⟨rfl, rfl⟩ | ⟨k1, i1, rfl, p1, rfl⟩ <;> rcases hhi with ⟨rfl, rfl⟩ | ⟨k2, i2, rfl, p2, rfl⟩ <;> rcases hmx with ⟨rfl, rfl⟩ | ⟨k3, i3, rfl, p3, rfl⟩
  all_goals first
    | (simp [Instr.sliceBounds, e1 _ _ _ _ p1 h1, e1 _ _ _ _ p2 h2, e1 _ _ _ _ p3 h3]; done)
    | (simp [Instr.sliceBounds, e1 _ _ _ _ p1 h1, e1 _ _ _ _ p2 h2]; done)
    | (simp [Instr.sliceBounds, e1 _ _ _ _ p2 h2, e1 _ _ _ _ p3 h3]; done)
    | (simp [Instr.sliceBounds, e1 _ _ _ _ p1 h1]; done)
    | (simp [Instr.sliceBounds, e1 _ _ _ _ p2 h2]; done)
    | (simp [Instr.sliceBounds]; done)
    | exact absurd (hn rfl) (by simp)

theorem add_block (a : Addr) (n : Nat) : (a.add n).block = a.block := by unfold Addr.add; split <;> rfl

theorem flatten_sub {xs : List PV} {n : Nat} (h : ∀ x ∈ xs, x.cells.length = n) {l k i : Nat} (hi : i < (flatten ((xs.take k).drop l)).length) : (flatten ((xs.take k).drop l)).getD i .undef = (flatten xs).getD (l * n + i) .undef := by
  have hsub : ∀ x ∈ (xs.take k).drop l, x.cells.length = n := fun x hx => h x (List.mem_of_mem_take (List.mem_of_mem_drop hx))
  have hn : 0 < n := by
    rcases Nat.eq_zero_or_pos n with h0 | h0
    · rw [flatten_len hsub, h0] at hi; simp at hi
    · exact h0
  have hlen := flatten_len hsub
  rw [hlen] at hi
  have hq : i / n < ((xs.take k).drop l).length := (Nat.div_lt_iff_lt_mul hn).2 hi
  have hr : i % n < n := Nat.mod_lt _ hn
  have hie : i / n * n + i % n = i := by rw [Nat.mul_comm]; exact Nat.div_add_mod _ _
  have hx : ((xs.take k).drop l)[i / n]? = some ((xs.take k).drop l)[i / n] := List.getElem?_eq_getElem hq
  have hx2 : xs[l + i / n]? = some ((xs.take k).drop l)[i / n] := by
    rw [← hx, List.getElem?_drop, List.getElem?_take]
    rw [if_pos]
    rw [List.length_drop, List.length_take] at hq
    generalize i / n = z at hq ⊢
    omega
  have a1 := flatten_get hsub hx hr
  have a2 := flatten_get h hx2 hr
  rw [hie] at a1
  rw [a1, ← a2]
  congr 1
  rw [Nat.add_mul]; omega

/-- A part of a row, read. -/
theorem R.sub {P : Program} {w : World} {fp : Nat → Prop} {e : Nat} {xs : List PV} {c : Value} (hr : R P w .rep fp (.sl e xs) c) {l h m : Nat} (h1 : l ≤ h) (h2 : h ≤ xs.length) :
    ∃ ad cap, c = .slice (some ad) xs.length cap ∧ xs.length ≤ cap ∧ (h ≤ m → m ≤ cap → R P w .rep fp (.sl e ((xs.take h).drop l)) (.slice (some (if m = l then ad else ad.add (l * P.cellsOf e))) (h - l) (m - l))) := by
  cases hr with
  | flat h => simp [PV.flat] at h
  | row lab cs hsz hpos hrow hfp hel =>
    obtain ⟨ad, cap, rfl, g2, g3, g4, g5⟩ := hrow
    refine ⟨ad, cap, rfl, g2, fun hm1 hm2 => ?_⟩
    have hlen : ((xs.take h).drop l).length = h - l := by simp; omega
    have hsub : ∀ x ∈ (xs.take h).drop l, x.cells.length = P.cellsOf e := fun x hx => hsz x (List.mem_of_mem_take (List.mem_of_mem_drop hx))
    have hblk : (if m = l then ad else ad.add (l * P.cellsOf e)).block = ad.block := by split; rfl; exact add_block _ _
    have hmul : (h - l) * P.cellsOf e + l * P.cellsOf e = h * P.cellsOf e := by rw [← Nat.add_mul]; congr 1; omega
    have hle : h * P.cellsOf e ≤ xs.length * P.cellsOf e := Nat.mul_le_mul_right _ h2
    have hflen : (flatten ((xs.take h).drop l)).length = (h - l) * P.cellsOf e := by rw [flatten_len hsub, hlen]
    refine .row lab ((cs.drop (l * P.cellsOf e)).take ((h - l) * P.cellsOf e)) hsub hpos ⟨_, _, by rw [hlen], by omega, by omega, ?_, fun j u hj => ?_⟩ (fun k hk => hfp k ?_) fun i hi => ?_
    · rw [hlen, List.length_take, List.length_drop]; omega
    · rw [List.getElem?_take] at hj
      split at hj
      · rename_i hjl
        rw [List.getElem?_drop] at hj
        have hne : m ≠ l := by
          rintro rfl
          have : h - m = 0 := by omega
          rw [this] at hjl; simp at hjl
        rw [if_neg hne, add_add]
        exact g5 _ _ hj
      · cases hj
    · simp only [Value.ownBlock, Option.some.injEq] at hk ⊢
      rw [← hk, hblk]
    · rw [flatten_sub hsz hi]
      rw [hflen] at hi
      have hi2 : l * P.cellsOf e + i < (flatten xs).length := by rw [flatten_len hsz]; omega
      have hh := hel _ hi2
      have ec : ((cs.drop (l * P.cellsOf e)).take ((h - l) * P.cellsOf e)).getD i undef = cs.getD (l * P.cellsOf e + i) undef := by
        rw [List.getD_eq_getElem?_getD, List.getD_eq_getElem?_getD, List.getElem?_take, if_pos hi, List.getElem?_drop]
      rw [ec]
      exact hh

theorem sli_core {T e : TypeId} {x : Operand} {lo hi mx : Option Operand} {p : Lab → Prop} {v : PV} (hT : X.P.underlying T = some (.slice e)) (hi' : (X.P.info? e).isSome = true) (h : Sim X Γ s) (hl : flO Γ lo = true) (hh : flO Γ hi = true) (hm : flO Γ mx = true)
    (hr : R X.P s.w .rep (s.fp p) (valO s.σ x) (s.a.eval x)) (hop : o.op = .slice T x lo hi mx) (hv : sliV e (valO s.σ x) (lo.map (valO s.σ)) (hi.map (valO s.σ)) (mx.map (valO s.σ)) = some v) :
    ∃ c, (execOp s.a.eval o).run X.P s.w = .ok (.value c) s.w ∧ R X.P s.w .rep (s.fp p) v c := by
  obtain ⟨i, hi2⟩ := Option.isSome_iff_exists.1 hi'
  have hcell : X.P.cellsOf e = i.size := by unfold Program.cellsOf; rw [hi2]; rfl
  have fit : ∀ {y : Option Operand} {d0 n : Nat}, flO Γ y = true → boundV (y.map (valO s.σ)) d0 = some n → (y.map s.a.eval = none ∧ n = d0) ∨ ∃ k i, y.map s.a.eval = some (.int k i) ∧ 0 ≤ i ∧ n = i.toNat := by
    intro y d0 n hf hb
    rcases bound_of h hf hb with ⟨rfl, h2⟩ | ⟨z, k, i, rfl, h2, h3, h4⟩
    · exact .inl ⟨rfl, h2⟩
    · exact .inr ⟨k, i, by simp [h2], h3, h4⟩
  have exec : ∀ (a : Option Addr) (n cap l hh' m : Nat), s.a.eval x = .slice a n cap → (Instr.sliceBounds true n cap (lo.map s.a.eval) (hi.map s.a.eval) (mx.map s.a.eval)).run X.P s.w = .ok (l, hh', m) s.w →
      (execOp s.a.eval o).run X.P s.w = .ok (.value (.slice (if m = l then a else a.map (·.add (l * i.size))) (hh' - l) (m - l))) s.w := by
    intro a n cap l hh' m hx hb
    unfold execOp
    simp only [hop, hx]
    simp [Instr.sliceAt, Instr.slice, run_underlying hT, hb, sizeOf, typeInfo, hi2]
  have hmxn : (hi.map (valO s.σ) = none → mx.map (valO s.σ) = none) → hi.map s.a.eval = none → mx.map s.a.eval = none := by
    intro h1 h2
    have h3 : hi = none := by cases hi <;> simp at h2 ⊢
    have h4 := h1 (by rw [h3]; rfl)
    have h5 : mx = none := by cases mx <;> simp at h4 ⊢
    rw [h5]; rfl
  unfold sliV at hv
  split at hv
  · rename_i e' xs hx
    split at hv
    · rename_i l hh' m b1 b2 b3
      split at hv
      · rename_i hc
        obtain ⟨rfl, c1, c2, c3, c4⟩ := hc
        injection hv with hv
        subst hv
        rw [hx] at hr
        obtain ⟨ad, cap, hev, hcap, _⟩ := hr.sl_inv
        -- the bound at the top: the capacity, or what is told
        let m' : Nat := if mx = none then cap else m
        have hm' : (mx.map s.a.eval = none ∧ m' = cap) ∨ ∃ k i, mx.map s.a.eval = some (.int k i) ∧ 0 ≤ i ∧ m' = i.toNat := by
          rcases fit hm b3 with ⟨q1, q2⟩ | ⟨k, j, q1, q2, q3⟩
          · have : mx = none := by cases mx <;> simp at q1 ⊢
            exact .inl ⟨q1, by simp only [m', if_pos this]⟩
          · have : mx ≠ none := by rintro rfl; cases q1
            exact .inr ⟨k, j, q1, q2, by simp only [m', if_neg this]; exact q3⟩
        have hml : hh' ≤ m' ∧ m' ≤ cap := by
          simp only [m']; split <;> omega
        have hrb := run_bounds (P := X.P) (w := s.w) (isSl := true) (len := xs.length) (cap := cap) (fit hl b1) (fit hh b2) hm' c1 hml.1 hml.2 (hmxn c4)
        refine ⟨_, exec _ _ _ _ _ _ hev hrb, ?_⟩
        obtain ⟨ad', cap', g1, g2, g3⟩ := hr.sub (l := l) (h := hh') (m := m') c1 (by omega)
        rw [hev] at g1
        injection g1 with g0 _ g1
        injection g0 with g0
        subst g0; subst g1
        have := g3 hml.1 hml.2
        rw [hcell] at this
        split
        · rename_i hq; rw [if_pos hq] at this; exact this
        · rename_i hq; rw [if_neg hq] at this; exact this
      · cases hv
    · cases hv
  · rename_i hx
    split at hv
    · rename_i b1 b2 b3
      split at hv
      · rename_i hc
        injection hv with hv
        subst hv
        rw [hx] at hr
        have hev := hr.nil_inv
        have hrb := run_bounds (P := X.P) (w := s.w) (isSl := true) (len := 0) (cap := 0) (fit hl b1) (fit hh b2) (fit hm b3) (Nat.le_refl _) (Nat.le_refl _) (Nat.le_refl _) (hmxn hc)
        refine ⟨_, exec _ _ _ _ _ _ hev hrb, ?_⟩
        simp only [if_true, Nat.sub_self]
        exact .flat rfl
      · cases hv
    · cases hv
  · cases hv

theorem sli_sound {E : Env} {T : TypeId} {x : Operand} {lo hi mx : Option Operand} {cop : COp} {Γ' : List G} (hE : E.P = X.P) (he : elabSli E Γ d T x lo hi mx = some (cop, Γ')) (h : Sim X Γ s) (f : Fr X L0 w0 s.L s.w) (hd : d < Γ.length) (ho : o.dst = some d) (hop : o.op = .slice T x lo hi mx)
    (hk : (∃ e, cop = .sli d e x lo hi mx ∧ optK (sliV e (valO s.σ x) (lo.map (valO s.σ)) (hi.map (valO s.σ)) (mx.map (valO s.σ))) fun v => K (s.σ.set d v) s.H) ∨
      (cop = .ssl d x lo hi ∧ optK (sslV (valO s.σ x) (lo.map (valO s.σ)) (hi.map (valO s.σ))) fun v => K (s.σ.set d v) s.H)) : o.wp X.P s.a s.w (Good X Γ' L0 w0 K) Q := by
  unfold elabSli at he
  rw [hE] at he
  split at he
  · rename_i hfl
    obtain ⟨hl, hh, hm⟩ := hfl
    split at he
    · rename_i hT
      split at he
      · rename_i hc
        simp only [Option.some.injEq, Prod.mk.injEq] at he
        obtain ⟨rfl, rfl⟩ := he
        rcases hk with ⟨_, h1, _⟩ | ⟨_, hk⟩
        · cases h1
        obtain ⟨v, hv, hk⟩ := hk.get
        have hmn : mx = none := by cases mx <;> simp at hc ⊢
        subst hmn
        unfold sslV at hv
        split at hv
        · rename_i st hx
          split at hv
          · rename_i l hh' b1 b2
            split at hv
            · rename_i hb
              injection hv with hv
              subst hv
              have hev := (fl_of h hc.1 hx (by simp)).str_inv
              have fit : ∀ {y : Option Operand} {d0 n : Nat}, flO Γ y = true → boundV (y.map (valO s.σ)) d0 = some n → (y.map s.a.eval = none ∧ n = d0) ∨ ∃ k i, y.map s.a.eval = some (.int k i) ∧ 0 ≤ i ∧ n = i.toNat := by
                intro y d0 n hf hb
                rcases bound_of h hf hb with ⟨rfl, h2⟩ | ⟨z, k, i, rfl, h2, h3, h4⟩
                · exact .inl ⟨rfl, h2⟩
                · exact .inr ⟨k, i, by simp [h2], h3, h4⟩
              have hrb := run_bounds (P := X.P) (w := s.w) (isSl := false) (len := st.size) (cap := st.size) (m := st.size) (fit hl b1) (fit hh b2) (mx := none) (.inl ⟨rfl, rfl⟩) hb.1 hb.2 (Nat.le_refl _) (fun _ => rfl)
              refine good_flat (c := .string (st.extract l hh')) h f hd ho ?_ rfl hk
              unfold execOp
              simp only [hop, hev]
              simp [Instr.sliceAt, Instr.slice, run_underlying hT, hrb]
            · cases hv
          · cases hv
        · cases hv
      · cases he
    · rename_i e hT
      split at he
      · rename_i hi'
        have hcop : cop = .sli d e x lo hi mx := by
          split at he
          · split at he <;> simp only [Option.some.injEq, Prod.mk.injEq, reduceCtorEq] at he
            exact he.1.symm
          · simp only [Option.some.injEq, Prod.mk.injEq] at he; exact he.1.symm
          · cases he
        subst hcop
        replace hk : optK (sliV e (valO s.σ x) (lo.map (valO s.σ)) (hi.map (valO s.σ)) (mx.map (valO s.σ))) fun v => K (s.σ.set d v) s.H := by
          rcases hk with ⟨e1, h1, hk⟩ | ⟨h1, _⟩
          · injection h1 with _ h1
            subst h1; exact hk
          · cases h1
        obtain ⟨v, hv, hk⟩ := hk.get
        have hxu : valO s.σ x ≠ .undef := by intro hx; rw [hx] at hv; cases hv
        have hreal := h.opnd' rfl hxu
        have key : ∀ g p, R X.P s.w .rep (s.fp p) (valO s.σ x) (s.a.eval x) → (∀ c, R X.P s.w .rep (s.fp p) v c → Real X (s.put d v c) d v c g) → Γ' = setG none false d g Γ → o.wp X.P s.a s.w (Good X Γ' L0 w0 K) Q := by
          rintro g p hr hg rfl
          obtain ⟨c, hrun, hr1⟩ := sli_core hT hi' h hl hh hm hr hop hv
          exact good_set h f hd ho hrun (.inr (hg c hr1)) hk
        have all : ∀ g, sliKind (kdO Γ x) (slotO x) = some g → Γ' = setG none false d g Γ → o.wp X.P s.a s.w (Good X Γ' L0 w0 K) Q := by
          intro g hsk hΓ
          generalize kdO Γ x = gx at hsk hreal
          cases gx <;> simp only [sliKind, Option.some.injEq, reduceCtorEq] at hsk <;> subst hsk
          case fl => exact key .fl (fun _ => False) hreal (fun c hc => hc) hΓ
          case own => exact key (.rd (slotO x)) _ hreal.rep (fun c hc => hc) hΓ
          case sh => exact key .sh _ hreal (fun c hc => hc) hΓ
          case fz => exact key .rn _ hreal.rep (fun c hc => hc) hΓ
          case rn => exact key .rn _ hreal (fun c hc => hc) hΓ
          case rd y => exact key (.rd y) _ hreal (fun c hc => hc) hΓ
          case al y => exact key (.rd y) _ hreal.1.rep (fun c hc => hc) hΓ
          case bal u n =>
            obtain ⟨r, j, _, _, hb⟩ := bal_data h hreal
            exact key .brd Lab.isB (hb.rep.mono fun k ⟨j', hk, _⟩ => by show (s.L k).isB; rw [show s.L k = .b r j' from hk]; trivial) (fun c hc => hc) hΓ
          case mo m => exact key (.rd (slotO x)) _ hreal.1.rep (fun c hc => hc) hΓ
          case eal y u =>
            obtain ⟨_, _, _, _, _, _, _, _, _, _, _, _, _, _, hreal⟩ := hreal
            exact key (.rd y) _ hreal (fun c hc => hc) hΓ
          case brd => exact key .brd _ hreal (fun c hc => hc) hΓ
        split at he
        · rename_i y hsk
          split at he
          · cases he
          · simp only [Option.some.injEq, Prod.mk.injEq] at he
            exact all _ hsk he.2.symm
        · rename_i g _ hsk
          simp only [Option.some.injEq, Prod.mk.injEq] at he
          exact all _ hsk he.2.symm
        · cases he
      · cases he
    · cases he
  · cases he
end
end Go.Den
set_option autoImplicit false
namespace Go.Den

/-! #### struct literals -/
def buildV : List PV → List (Nat × Nat × PV) → Option (List PV)
  | zs, [] => some zs
  | zs, (off, n, v) :: r => if v.isUndef = false ∧ v.cells.length = n ∧ off + n ≤ zs.length then buildV (putCells zs off v.cells) r else none
def buildP (zs : List PV) (ps : List (Nat × Nat × PV)) : Option PV := (buildV zs ps).map .agg
def placesT (P : Program) (fs : Array Field) : List (Nat × Operand) → Option (List (Nat × Nat × Operand))
  | [] => some []
  | (i, x) :: r => match fs[i]? with
    | none => none
    | some f => match P.info? f.type, placesT P fs r with
      | some fi, some l => some ((f.offset, fi.size, x) :: l)
      | _, _ => none
def elabBuild (E : Env) (Γ : List G) (d : Nat) (T : TypeId) (parts : List (Nat × Operand)) : Option (COp × List G) :=
  match E.P.info? T, E.P.underlying T with
  | some it, some (.struct fs) =>
    if (fs.toList.all fun f => (E.P.info? f.type).isSome) = true then
      match it.zero.bind zeroV, placesT E.P fs parts with
      | some (.agg zs), some ps =>
        if (parts.all fun p => kdO Γ p.2 == .fl) = true then some (.build d zs ps [], setG none false d .fl Γ)
        else match eats (parts.map fun _ => some .own) (parts.map (·.2)) Γ with
          | some (Γ1, ss) => some (.build d zs ps ss, setG none false d .own Γ1)
          | none => none
      | _, _ => none
    else none
  | _, _ => none

section
variable {X : Cx} {Γ : List G} {s : S} {L0 : Nat → Lab} {w0 : World} {K : KV} {o : Oper} {Q : Exit → Act → World → Prop} {d : Nat}

theorem fold_put : ∀ (cs : List Value) (off k : Nat) (acc : Array Value) (p : Nat), off + k + cs.length ≤ acc.size →
    ((cs.zipIdx k).foldl (fun (a : Array Value) (x : Value × Nat) => a.setIfInBounds (off + x.2) x.1) acc).size = acc.size ∧
    ((cs.zipIdx k).foldl (fun (a : Array Value) (x : Value × Nat) => a.setIfInBounds (off + x.2) x.1) acc).getD p undef = if off + k ≤ p ∧ p < off + k + cs.length then cs.getD (p - (off + k)) undef else acc.getD p undef
  | [], off, k, acc, p, h => by simp; omega
  | c :: cs, off, k, acc, p, h => by
    simp only [List.zipIdx_cons, List.foldl_cons]
    simp only [List.length_cons] at h
    obtain ⟨h1, h2⟩ := fold_put cs off (k + 1) (acc.setIfInBounds (off + k) c) p (by simp; omega)
    refine ⟨by rw [h1]; simp, ?_⟩
    rw [h2]
    by_cases hp : off + (k + 1) ≤ p ∧ p < off + (k + 1) + cs.length
    · rw [if_pos hp, if_pos ⟨by omega, by simp; omega⟩, show p - (off + k) = (p - (off + (k + 1))) + 1 by omega]
      simp
    · rw [if_neg hp]
      by_cases hpe : p = off + k
      · subst hpe
        rw [if_pos ⟨by omega, by simp⟩]
        simp [Array.getD, show off + k < acc.size by omega]
      · rw [if_neg (by rintro ⟨a, b⟩; simp at b; omega)]
        simp only [Array.getD_eq_getD_getElem?]
        rw [Array.getElem?_setIfInBounds_ne (by omega)]

theorem fill_agg {P : Program} {w : World} {m : M} {place : Nat → Option (Nat × Nat)} {Φ : Nat → Nat → Prop} : ∀ (its : List (Nat × Nat × Nat × PV × Value)) (zs : List PV) (cells : Array Value) (zs' : List PV),
    (∀ p, p < zs.length → R P w m (Φ p) (zs.getD p .undef) (cells.getD p undef)) → cells.size = zs.length →
    (∀ it ∈ its, place it.1 = some (it.2.1, it.2.2.1) ∧ (it.2.2.2.1 ≠ .undef → it.2.2.2.2.cells.size = it.2.2.2.1.cells.length ∧ ∀ q, q < it.2.2.2.1.cells.length → R P w m (Φ (it.2.1 + q)) (it.2.2.2.1.cells.getD q .undef) (it.2.2.2.2.cells.getD q undef))) →
    buildV zs (its.map fun it => (it.2.1, it.2.2.1, it.2.2.2.1)) = some zs' →
    ∃ cells', Instr.fill place cells (its.map fun it => (it.1, it.2.2.2.2)) = some cells' ∧ cells'.size = zs'.length ∧ ∀ p, p < zs'.length → R P w m (Φ p) (zs'.getD p .undef) (cells'.getD p undef)
  | [], zs, cells, zs', h, hs, _, hb => by
    simp only [List.map_nil, buildV, Option.some.injEq] at hb
    subst hb
    exact ⟨cells, rfl, hs, h⟩
  | (fi, off, n, v, c) :: its, zs, cells, zs', h, hs, hit, hb => by
    simp only [List.map_cons, buildV] at hb
    split at hb
    · rename_i hc
      obtain ⟨c1, c2, c3⟩ := hc
      obtain ⟨g1, g2⟩ := hit (fi, off, n, v, c) (by simp)
      simp only at g1 g2
      obtain ⟨g2, g3⟩ := g2 (fun hx => by rw [hx] at c1; cases c1)
      have hlen : off + v.cells.length ≤ zs.length := by omega
      have hsz : c.cells.size = n := by omega
      have hput := fun p => fold_put c.cells.toList off 0 cells p (by simp; omega)
      have hzip : c.cells.zipIdx.foldl (fun cs (x : Value × Nat) => cs.setIfInBounds (off + x.2) x.1) cells = (c.cells.toList.zipIdx 0).foldl (fun (a : Array Value) (x : Value × Nat) => a.setIfInBounds (off + x.2) x.1) cells := by
        rw [← Array.foldl_toList, Array.toList_zipIdx]
      have hfill : Instr.fill place cells (((fi, off, n, v, c) :: its).map fun it => (it.1, it.2.2.2.2)) = Instr.fill place ((c.cells.toList.zipIdx 0).foldl (fun (a : Array Value) (x : Value × Nat) => a.setIfInBounds (off + x.2) x.1) cells) (its.map fun it => (it.1, it.2.2.2.2)) := by
        simp only [List.map_cons, Instr.fill, g1]
        rw [if_neg (by simp; omega)]
        rw [hzip]
      rw [hfill]
      refine fill_agg its _ _ zs' (fun p hp => ?_) (by rw [(hput 0).1, putCells_len _ _ _ hlen, hs]) (fun it hi => hit it (by simp [hi])) hb
      rw [putCells_len _ _ _ hlen] at hp
      rw [(hput p).2, putCells_eq _ _ _ hlen, splice_get _ _ _ _ _ hlen]
      simp only [Nat.add_zero, Array.length_toList]
      by_cases hin : off ≤ p ∧ p < off + v.cells.length
      · rw [if_pos hin, if_pos ⟨hin.1, by omega⟩]
        have := g3 (p - off) (by omega)
        rw [show off + (p - off) = p by omega] at this
        simpa [List.getD_eq_getElem?_getD, Array.getD_eq_getD_getElem?] using this
      · rw [if_neg hin, if_neg (by omega)]
        exact h p hp
    · cases hb

theorem placesT_get {P : Program} {fs : Array Field} : ∀ {parts : List (Nat × Operand)} {ps : List (Nat × Nat × Operand)}, placesT P fs parts = some ps →
    ps.map (·.2.2) = parts.map (·.2) ∧ ps.length = parts.length ∧ ∀ (j i : Nat) (x : Operand), parts[j]? = some (i, x) → ∃ (f : Field) (fi : TypeInfo), fs[i]? = some f ∧ P.info? f.type = some fi ∧ ps[j]? = some (f.offset, fi.size, x)
  | [], ps, h => by simp only [placesT, Option.some.injEq] at h; subst h; simp
  | (i, x) :: r, ps, h => by
    simp only [placesT] at h
    split at h
    · cases h
    · rename_i f hf
      split at h
      · rename_i fi l hfi hl
        injection h with h
        subst h
        obtain ⟨h1, h2, h3⟩ := placesT_get hl
        refine ⟨by simp [h1], by simp [h2], fun j i' x' hj => ?_⟩
        cases j with
        | zero => simp only [List.getElem?_cons_zero, Option.some.injEq, Prod.mk.injEq] at hj; obtain ⟨rfl, rfl⟩ := hj; exact ⟨f, fi, hf, hfi, rfl⟩
        | succ j => exact h3 j i' x' (by simpa using hj)
      · cases h

theorem places_all {P : Program} : ∀ {fs : List Field}, (fs.all fun f => (P.info? f.type).isSome) = true → ∃ l : List (Nat × Nat), fs.mapM (fun (f : Field) => (P.info? f.type).map fun i => (f.offset, i.size)) = some l ∧ ∀ (i : Nat) (f : Field) (fi : TypeInfo), fs[i]? = some f → P.info? f.type = some fi → l[i]? = some (f.offset, fi.size)
  | [], _ => ⟨[], rfl, fun i f fi h => by simp at h⟩
  | f :: fs, h => by
    simp only [List.all_cons, Bool.and_eq_true] at h
    obtain ⟨fi, hfi⟩ := Option.isSome_iff_exists.1 h.1
    obtain ⟨l, h1, h2⟩ := places_all h.2
    refine ⟨(f.offset, fi.size) :: l, by simp [List.mapM_cons, hfi, h1], fun i f' fi' hf' hfi' => ?_⟩
    cases i with
    | zero => simp only [List.getElem?_cons_zero, Option.some.injEq] at hf'; subst hf'; rw [hfi] at hfi'; injection hfi' with hfi'; subst hfi'; rfl
    | succ i => exact h2 i f' fi' (by simpa using hf') hfi'

theorem build_sound {E : Env} {T : TypeId} {parts : Array (Nat × Operand)} {cop : COp} {Γ' : List G} (hE : E.P = X.P) (he : elabBuild E Γ d T parts.toList = some (cop, Γ')) (h : Sim X Γ s) (f : Fr X L0 w0 s.L s.w) (hd : d < Γ.length) (ho : o.dst = some d) (hop : o.op = .build T parts)
    (hk : ∃ zs ps ss, cop = .build d zs ps ss ∧ optK (buildP zs (ps.map fun p => (p.1, p.2.1, valO s.σ p.2.2))) fun v => K (s.σ.set d v) (eatsH s.σ s.H ss)) : o.wp X.P s.a s.w (Good X Γ' L0 w0 K) Q := by
  obtain ⟨zs, ps, ss, rfl, hk0⟩ := hk
  obtain ⟨v, hv, hk⟩ := hk0.get
  clear hk0
  unfold elabBuild at he
  rw [hE] at he
  split at he
  · rename_i it fs hit hT
    split at he
    · rename_i hall
      split at he
      · rename_i zs' ps' hz hps
        have heq : zs' = zs ∧ ps' = ps := by
          split at he
          · simp only [Option.some.injEq, Prod.mk.injEq, COp.build.injEq] at he; exact ⟨he.1.2.1, he.1.2.2.1⟩
          · split at he
            · simp only [Option.some.injEq, Prod.mk.injEq, COp.build.injEq] at he; exact ⟨he.1.2.1, he.1.2.2.1⟩
            · cases he
        obtain ⟨rfl, rfl⟩ := heq
        obtain ⟨z, hz1, hz2⟩ := Option.bind_eq_some_iff.1 hz
        obtain ⟨hzs, hzf⟩ := zeroV_cells hz2
        obtain ⟨pm, pl, pg⟩ := placesT_get hps
        obtain ⟨places, hpl, hplg⟩ := places_all (P := X.P) (fs := fs.toList) hall
        obtain ⟨zs2, hzs2, rfl⟩ := Option.map_eq_some_iff.1 hv
        -- the parts, seen from both sides
        let its : List (Nat × Nat × Nat × PV × Value) := (List.range parts.size).map fun j => ((parts.toList.getD j (0, .tmp 0)).1, (ps'.getD j (0, 0, .tmp 0)).1, (ps'.getD j (0, 0, .tmp 0)).2.1, valO s.σ (parts.toList.getD j (0, .tmp 0)).2, s.a.eval (parts.toList.getD j (0, .tmp 0)).2)
        have hpsl : ps'.length = parts.size := by rw [pl]; simp
        have hpart : ∀ j, j < parts.size → ∃ i x fld fi, parts.toList.getD j (0, .tmp 0) = (i, x) ∧ fs[i]? = some fld ∧ X.P.info? fld.type = some fi ∧ ps'.getD j (0, 0, .tmp 0) = (fld.offset, fi.size, x) := fun j hj => by
          have hj' : j < parts.toList.length := by simpa using hj
          obtain ⟨fld, fi, q1, q2, q3⟩ := pg j (parts.toList[j]).1 (parts.toList[j]).2 (List.getElem?_eq_getElem hj')
          refine ⟨(parts.toList[j]).1, (parts.toList[j]).2, fld, fi, ?_, q1, q2, ?_⟩
          · rw [List.getD_eq_getElem?_getD, List.getElem?_eq_getElem hj']; rfl
          · rw [List.getD_eq_getElem?_getD, q3]; rfl
        have hits : its.map (fun it => (it.2.1, it.2.2.1, it.2.2.2.1)) = ps'.map fun p => (p.1, p.2.1, valO s.σ p.2.2) := by
          apply List.ext_getElem?
          intro j
          simp only [its, List.map_map, List.getElem?_map]
          by_cases hj : j < parts.size
          · obtain ⟨i, x, fld, fi, q1, _, _, q4⟩ := hpart j hj
            have e1 : ps'[j]? = some (ps'.getD j (0, 0, .tmp 0)) := by rw [List.getD_eq_getElem?_getD, List.getElem?_eq_getElem (by omega)]; rfl
            rw [e1]
            simp only [List.getElem?_range hj, Option.map_some, Function.comp]
            rw [q1, q4]
          · rw [List.getElem?_eq_none (by simp; omega), List.getElem?_eq_none (by omega)]; rfl
        have hitv : its.map (fun it => (it.1, it.2.2.2.2)) = (parts.map fun (i, x) => (i, s.a.eval x)).toList := by
          apply List.ext_getElem?
          intro j
          simp only [its, List.map_map, List.getElem?_map, Array.toList_map]
          by_cases hj : j < parts.size
          · have hj' : j < parts.toList.length := by simpa using hj
            simp only [List.getElem?_range hj, Option.map_some, Function.comp, List.getElem?_eq_getElem hj', List.getD_eq_getElem?_getD, Option.getD_some]
          · rw [List.getElem?_eq_none (by simp; omega), List.getElem?_eq_none (by simp; omega)]; rfl
        have mem : ∀ it ∈ its, ∃ j, j < parts.size ∧ it = ((parts.toList.getD j (0, .tmp 0)).1, (ps'.getD j (0, 0, .tmp 0)).1, (ps'.getD j (0, 0, .tmp 0)).2.1, valO s.σ (parts.toList.getD j (0, .tmp 0)).2, s.a.eval (parts.toList.getD j (0, .tmp 0)).2) := fun it hi => by
          simp only [its, List.mem_map, List.mem_range] at hi
          obtain ⟨j, hj, rfl⟩ := hi
          exact ⟨j, hj, rfl⟩
        have place : ∀ j, j < parts.size → places[(parts.toList.getD j (0, .tmp 0)).1]? = some ((ps'.getD j (0, 0, .tmp 0)).1, (ps'.getD j (0, 0, .tmp 0)).2.1) := fun j hj => by
          obtain ⟨i, x, fld, fi, q1, q2, q3, q4⟩ := hpart j hj
          rw [q1, q4]
          exact hplg i fld fi (by simpa using q2) q3
        have exec : ∀ cells, Instr.fill (places.toArray[·]?) z.cells (its.map fun it => (it.1, it.2.2.2.2)) = some cells → (execOp s.a.eval o).run X.P s.w = .ok (.value (.agg cells)) s.w := by
          intro cells hf
          have hb : X.P.built T (parts.map fun (i, x) => (i, s.a.eval x)).toList = some cells := by
            unfold Program.built
            simp only [hit, hT, hz1, hpl]
            rw [← hitv]; exact hf
          unfold execOp
          simp only [hop]
          have := run_build s.w T (parts.map fun (i, x) => (i, s.a.eval x)) cells hb
          simp only [Sem.run_bind, this, Result.andThen_ok]
          rfl
        have hzero : ∀ (w : World) (m : M) (Φ : Nat → Nat → Prop) p, p < zs'.length → R X.P w m (Φ p) (zs'.getD p .undef) (z.cells.getD p undef) := fun w m Φ p hp => .flat (hzf p hp)
        split at he
        · rename_i hfl
          simp only [Option.some.injEq, Prod.mk.injEq, COp.build.injEq] at he
          obtain ⟨⟨_, _, _, rfl⟩, rfl⟩ := he
          obtain ⟨cells', c1, c2, c3⟩ := fill_agg (P := X.P) (w := s.w) (m := .rep) (place := (places.toArray[·]?)) (Φ := fun _ _ => False) its zs' z.cells zs2 (hzero s.w .rep _) hzs (fun it hi => by
            obtain ⟨j, hj, rfl⟩ := mem it hi
            refine ⟨by simpa using place j hj, fun hnu => ?_⟩
            simp only at hnu ⊢
            have hk1 : kdO Γ (parts.toList.getD j (0, .tmp 0)).2 = .fl := by
              have hj' : j < parts.toList.length := by simpa using hj
              have := List.all_eq_true.1 hfl (parts.toList.getD j (0, .tmp 0)) (by rw [List.getD_eq_getElem?_getD, List.getElem?_eq_getElem hj']; exact List.getElem_mem hj')
              simpa using this
            have hr := fl_of h hk1 rfl hnu
            obtain ⟨lab, g1, g2⟩ := R.cells hr hnu
            exact ⟨g1, fun q hq => g2 q hq⟩) (by rw [hits]; exact hzs2)
          refine good_set h f hd ho (exec _ c1) (.inr ?_) hk
          exact .agg (fun _ => 0) c2 fun i hi => c3 i hi
        · split at he
          · rename_i Γ1 ss' hea
            simp only [Option.some.injEq, Prod.mk.injEq, COp.build.injEq] at he
            obtain ⟨⟨_, _, _, rfl⟩, rfl⟩ := he
            -- all parts are told
            have hdef : ∀ (zs : List PV) (l : List (Nat × Nat × PV)) r, buildV zs l = some r → ∀ p ∈ l, p.2.2.isUndef = false := by
              intro zs l
              induction l generalizing zs with
              | nil => intro r _ p hp; simp at hp
              | cons a l ih =>
                obtain ⟨off, n, v⟩ := a
                intro r hr p hp
                simp only [buildV] at hr
                split at hr
                · rename_i hc
                  rcases List.mem_cons.1 hp with rfl | hp
                  · exact hc.1
                  · exact ih _ r hr p hp
                · cases hr
            have hnu : ∀ j, j < parts.size → valO s.σ (parts.toList.getD j (0, .tmp 0)).2 ≠ .undef := fun j hj hx => by
              obtain ⟨i, x, fld, fi, q1, _, _, q4⟩ := hpart j hj
              have hm : (ps'.getD j (0, 0, .tmp 0)) ∈ ps' := by rw [List.getD_eq_getElem?_getD, List.getElem?_eq_getElem (by omega)]; exact List.getElem_mem _
              have := hdef _ _ _ hzs2 _ (List.mem_map.2 ⟨_, hm, rfl⟩)
              rw [q4] at this
              rw [q1] at hx
              simp only at this hx
              rw [hx] at this; cases this
            have hpx : ∀ j x, (parts.toList.map (·.2))[j]? = some x → j < parts.size ∧ x = (parts.toList.getD j (0, .tmp 0)).2 := fun j x hx => by
              have hj : j < parts.toList.length := by have := (List.getElem?_eq_some_iff.1 hx).1; simpa using this
              refine ⟨by simpa using hj, ?_⟩
              rw [List.getElem?_map, List.getElem?_eq_getElem hj] at hx
              rw [List.getD_eq_getElem?_getD, List.getElem?_eq_getElem hj]
              exact (Option.some.inj hx).symm
            obtain ⟨L1, hs1, hh, hf1, hres⟩ := Sim.eats _ _ Γ Γ1 s ss' 0 h hea (fun j m x hm hx => .inr (by obtain ⟨hj, rfl⟩ := hpx j x hx; exact hnu j hj))
            have hand : ∀ j, ∃ lab : Nat → Nat, j < parts.size → (s.a.eval (parts.toList.getD j (0, .tmp 0)).2).cells.size = (valO s.σ (parts.toList.getD j (0, .tmp 0)).2).cells.length ∧ ∀ q, q < (valO s.σ (parts.toList.getD j (0, .tmp 0)).2).cells.length →
                R X.P s.w .own (part .own (fun k => L1 k = .res j) lab none q) ((valO s.σ (parts.toList.getD j (0, .tmp 0)).2).cells.getD q .undef) ((s.a.eval (parts.toList.getD j (0, .tmp 0)).2).cells.getD q undef) := fun j => by
              by_cases hj : j < parts.size
              · have hj' : j < parts.toList.length := by simpa using hj
                have hm : (parts.toList.map fun _ => some TK.own)[j]? = some (some .own) := by rw [List.getElem?_map, List.getElem?_eq_getElem hj']; rfl
                have hx : (parts.toList.map (·.2))[j]? = some (parts.toList.getD j (0, .tmp 0)).2 := by rw [List.getElem?_map, List.getElem?_eq_getElem hj', List.getD_eq_getElem?_getD, List.getElem?_eq_getElem hj']; rfl
                have ht := hh j .own _ hm hx
                obtain ⟨lab, g1, g2⟩ := R.cells ht (hnu j hj)
                refine ⟨lab, fun _ => ⟨g1, fun q hq => ?_⟩⟩
                have := g2 q hq
                rwa [Nat.zero_add] at this
              · exact ⟨fun _ => 0, fun hx => absurd hx hj⟩
            obtain ⟨lb, hlb⟩ := Classical.skolem.1 hand
            let offs : Nat → Nat := fun j => (ps'.getD j (0, 0, .tmp 0)).1
            let Φ : Nat → Nat → Prop := fun p k => ∃ j, L1 k = .res j ∧ offs j + lb j k = p
            obtain ⟨cells', c1, c2, c3⟩ := fill_agg (P := X.P) (w := s.w) (m := .own) (place := (places.toArray[·]?)) (Φ := Φ) its zs' z.cells zs2 (hzero s.w .own _) hzs (fun it hi => by
              obtain ⟨j, hj, rfl⟩ := mem it hi
              refine ⟨by simpa using place j hj, fun hnu => ?_⟩
              simp only at hnu ⊢
              obtain ⟨g1, g2⟩ := hlb j hj
              refine ⟨g1, fun q hq => (g2 q hq).mono fun k hk => ⟨j, hk.1, ?_⟩⟩
              have : lb j k = q := hk.2.2
              show offs j + lb j k = _
              rw [this]) (by rw [hits]; exact hzs2)
            have hd1 : d < Γ1.length := by rw [hs1.lenG, ← h.lenG]; exact hd
            -- all that is in hand goes to the slot
            let L' : Nat → Lab := fun k => match L1 k with | .res _ => .s d | l => l
            have hL : ∀ k, (∀ j, L1 k ≠ .res j) → L' k = L1 k := fun k hk => by
              show (match L1 k with | .res _ => .s d | l => l) = L1 k
              cases hl : L1 k <;> first | rfl | exact absurd hl (hk _)
            have hR : ∀ k j, L1 k = .res j → L' k = .s d := fun k j hk => by simp only [L']; rw [hk]
            have hnr : ∀ g i j, ¬ G.uses g i (.res j) := by intro g i j; cases g <;> simp [G.uses, Lab.isB]
            have hs2 : Sim X Γ1 { s with L := L', H := eatsH s.σ s.H ss' } := by
              refine ⟨hs1.lenG, hs1.lenA, hs1.defs, fun j g hg => ?_, fun r b hb => ?_, fun k hk => ?_, hs1.n0⟩
              · refine (hs1.slot j g hg).out ⟨rfl, rfl, fun k hk => ⟨hL k ?_, rfl⟩, fun _ _ => ⟨rfl, rfl⟩, fun _ r b hr => ⟨b, hr, rfl, rfl, fun _ _ => ⟨rfl, rfl⟩⟩, fun _ _ _ _ _ => rfl⟩
                intro i hx; change G.uses g j (L1 k) at hk; rw [hx] at hk; exact hnr g j i hk
              · have hbo := hs1.box r b hb
                refine BoxOk.step hbo ⟨hL _ ?_, rfl⟩ (fun k hk => ⟨hL k ?_, rfl⟩) (H_lt hb) (Nat.le_refl _) (fun _ _ => rfl)
                · obtain ⟨_, _, _, h2, _⟩ := hbo; change L1 (s.bm r) = _ at h2; rw [h2]; simp
                · change (∃ j, L1 k = _) ∨ L1 k = _ ∨ L1 k = _ at hk
                  rcases hk with ⟨j, hk⟩ | hk | hk <;> rw [hk] <;> simp
              · have := hs1.top k hk
                change L1 k = .no at this
                show L' k = .no
                rw [show L' k = L1 k from hL k (by rw [this]; simp)]; exact this
            refine op_value (exec _ c1) ?_
            rw [ho]
            refine ⟨({ s with L := L', H := eatsH s.σ s.H ss' } : S).put d (.agg zs2) (.agg cells'), rfl, rfl, hs2.set hd1 (.inr ?_), (f.trans hf1).trans ⟨rfl, rfl, rfl, Nat.le_refl _, fun k _ hl => ⟨rfl, hL k (by intro j hx; rw [hx] at hl; exact hl)⟩⟩, hk⟩
            refine .agg (fun k => match L1 k with | .res j => offs j + lb j k | _ => 0) c2 fun i hi => (c3 i hi).mono fun k hk => ?_
            obtain ⟨j, hk1, hk2⟩ := hk
            exact ⟨hR k j hk1, by simp, by simp only [hk1]; exact hk2⟩
          · cases he
      · cases he
    · cases he
  · cases he
end
end Go.Den
set_option autoImplicit false
namespace Go.Den

/-! ### One operation -/
def flG (d : Nat) (Γ : List G) : List G := setG none false d .fl Γ
def fl2 (Γ : List G) (x y : Operand) : Bool := kdO Γ x == .fl && kdO Γ y == .fl
def hasData (Γ : List G) (x : Operand) : Bool := ((kdO Γ x).data (slotO x)).isSome
def isBoolTy (P : Program) (t : TypeId) : Bool := match P.underlying t with | some .bool => true | _ => false
def isStrTy (P : Program) (t : TypeId) : Bool := match P.underlying t with | some .string => true | _ => false
def isSlTy (P : Program) (t : TypeId) : Bool := match P.underlying t with | some (.slice _) => true | _ => false
def isNilC : Operand → Bool
  | .const (.slice none 0 0) => true
  | _ => false
def negOf : BinOp → Option Bool
  | .eql => some false
  | .neq => some true
  | _ => none

def elabBin (E : Env) (Γ : List G) (d : Nat) (op : BinOp) (T : TypeId) (x y : Operand) : Option (COp × List G) :=
  match negOf op with
  | some neg =>
    if isNilC y = true then (if isSlTy E.P T = true ∧ hasData Γ x = true then some (.isnil d neg x, flG d Γ) else none)
    else if isBoolTy E.P T = true then (if fl2 Γ x y = true then some (.beq d neg x y, flG d Γ) else none)
    else if fl2 Γ x y = true then some (.bin d op x y, flG d Γ) else none
  | none => if fl2 Γ x y = true then some (.bin d op x y, flG d Γ) else none

def elabConv (E : Env) (Γ : List G) (d : Nat) (T T' : TypeId) (x : Operand) : Option (COp × List G) :=
  if kdO Γ x == .fl then
    match E.P.underlying T, E.P.underlying T' with
    | some .string, some .string => some (.ssl d x none none, flG d Γ)
    | some _, some (.int k) => some (.conv d k x, flG d Γ)
    | _, _ => none
  else none

def elabCallOp (E : Env) (Γ : List G) (d : Option Nat) (c : Call) : Option (COp × List G) :=
  match c.callee, c.args.toList, d with
  | .builtin .len, [x], some d => match c.argTypes[0]? with
    | some t => if hasData Γ x = true then (if isStrTy E.P t = true then some (.len d true x, flG d Γ) else if isSlTy E.P t = true then some (.len d false x, flG d Γ) else none) else none
    | none => none
  | .builtin .max, [x, y], some d => if fl2 Γ x y = true then some (.mm d true x y, flG d Γ) else none
  | .builtin .min, [x, y], some d => if fl2 Γ x y = true then some (.mm d false x y, flG d Γ) else none
  | .builtin .append, [x, y], some d => match c.argTypes.toList with
    | [T, T'] => if T = T' then elabApp E Γ d T x y else none
    | _ => none
  | .value (.func g), xs, d => match E.sig g with
    | some sg => if sg.mu = true then (match d with
      | some d => elabCallM sg g Γ d xs
      | none => none) else match elabCall sg 0 Γ d xs with
      | some (ss, Γ') => some (.call d g sg xs ss, Γ')
      | none => none
    | none => none
  | .value (.tmp t), xs, d => match E.vsig t with
    | some (g, sg, nc) => if kdO Γ (.tmp t) == .fn ∧ sg.mu = false then
        (match elabCall sg nc Γ d xs with
        | some (ss, Γ') => some (.callv d (.tmp t) g nc sg xs ss, Γ')
        | none => none) else none
    | none => none
  | _, _, _ => none

def elabOp (E : Env) (Γ : List G) (o : Oper) : Option (COp × List G) :=
  match o.dst with
  | some d =>
    if d < Γ.length then
      match o.op with
      | .move x => elabCopy false E Γ d x
      | .assign x => elabCopy true E Γ d x
      | .pick c a b => if kdO Γ c == .fl && fl2 Γ a b then some (.pick d c a b, flG d Γ) else none
      | .alloc T => elabAlloc E Γ d T
      | .box _ x => elabBox E Γ d x
      | .buildSlice T n ps => elabLit E Γ d T n ps.toList
      | .load T u => match kdO Γ u with
        | .ea _ => elabLoadE E Γ d T u
        | _ => elabLoadB E Γ d T u
      | .nilCheck u => match kdO Γ u with
        | .ptr ck m => some (.take d u .none, setG none false d (.ptr ck m) Γ)
        | _ => none
      | .binOp op T x y _ => elabBin E Γ d op T x y
      | .unOp op _ x => if kdO Γ x == .fl then some (.un d op x, flG d Γ) else none
      | .convert T T' x => elabConv E Γ d T T' x
      | .makeFunc fn first caps => elabMkfn Γ d fn first caps
      | .makeSlice T l c => elabMks E Γ d T l c
      | .fieldAddr St u fi => elabFadd E Γ d St u fi
      | .indexAddr T x i => elabIadd E Γ d T x i
      | .extract x j => elabExt Γ d x j
      | .slice T x lo hi mx => elabSli E Γ d T x lo hi mx
      | .build T ps => elabBuild E Γ d T ps.toList
      | .makeInterface _ _ => some (.fail, setG none false d .dead Γ)
      | .panic _ => some (.fail, setG none false d .dead Γ)
      | .index T x i => if isStrTy E.P T && fl2 Γ x i then some (.sidx d x i, flG d Γ) else none
      | .call c => elabCallOp E Γ (some d) c
      | _ => none
    else none
  | none =>
    match o.op with
    | .store T u x => match kdO Γ u with
      | .ea _ => elabStoreE E Γ T u x
      | _ => elabStoreB E Γ T u x
    | .call c => elabCallOp E Γ none c
    | .panic _ => some (.fail, Γ)
    | _ => none

/-! ### What an operation does to plain values -/
abbrev Rel := Nat → List PV → Boxes → List PV → Boxes → Prop
def Rel.T (R : Rel) : Tr := fun lim vs H K => ∃ rs H', R lim vs H rs H' ∧ K rs H'
abbrev SpecR (P : Program) (g : Nat) (sg : Sig) (R : Rel) : Prop := Spec P g sg R.T

def COp.dst : COp → Option Nat
  | .fail => none
  | .copy d _ | .take d _ _ | .bin d _ _ _ | .un d _ _ | .conv d _ _ | .pick d _ _ _ | .beq d _ _ _ | .len d _ _ | .isnil d _ _ | .mm d _ _ _ | .ext d _ _ | .box d _ _ _ | .alloc d _ _ | .loadB d _ _ _ => some d
  | .storeB _ _ _ _ => none
  | .fadd d _ _ | .iadd d _ _ _ | .loadE d _ _ _ _ => some d
  | .storeE x _ _ _ => some x
  | .sli d _ _ _ _ _ | .mks d _ _ _ _ _ | .lit d _ _ _ _ | .build d _ _ _ | .field d _ _ _ _ | .app d _ _ _ _ _ _ => some d
  | .call d _ _ _ _ => d
  | .callv d _ _ _ _ _ _ => d
  | .mkfn d _ _ | .sidx d _ _ | .ssl d _ _ _ | .sstr d _ | .callm d _ _ _ _ _ | .boxm d _ => some d
/-- The slots behind an operation: a call that changes its argument brings them whole. -/
def COp.isM : COp → Bool
  | .callm _ _ _ _ _ _ => true
  | _ => false
def COp.upd (cop : COp) (σ : List PV) (v : PV) : List PV :=
  if cop.isM then (match v with
    | .tup (k :: σ1) => setD σ1 cop.dst k
    | _ => σ) else setD σ cop.dst v
theorem COp.upd_eq {cop : COp} (h : cop.isM = false) (σ : List PV) (v : PV) : cop.upd σ v = setD σ cop.dst v := by simp [COp.upd, h]

def callR (R : Rel) (lim : Nat) (sg : Sig) (vs : List PV) (H1 : Boxes) (v : PV) (H' : Boxes) : Prop :=
  argsV (limV sg.pure lim H1) H1 sg.ps vs ∧ ∃ rs H2, R (limV sg.pure lim H1) vs H1 rs H2 ∧ v = packP rs ∧ H' = if sg.pure then H1 else mergeH lim H1 H2

def COp.run (Tb : Nat → Rel) (lim : Nat) : COp → List PV → Boxes → PV → Boxes → Prop
  | .copy _ x, σ, H, v, H' => v = valO σ x ∧ H' = H
  | .take _ x src, σ, H, v, H' => valO σ x ≠ .undef ∧ v = valO σ x ∧ H' = eatH σ H src
  | .bin _ op x y, σ, H, v, H' => binV op (valO σ x) (valO σ y) = some v ∧ H' = H
  | .un _ op x, σ, H, v, H' => unV op (valO σ x) = some v ∧ H' = H
  | .conv _ k x, σ, H, v, H' => convV k (valO σ x) = some v ∧ H' = H
  | .pick _ c a b, σ, H, v, H' => (∃ t, valO σ c = .bool t ∧ v = (if t then valO σ a else valO σ b) ∧ v ≠ .undef) ∧ H' = H
  | .beq _ neg x y, σ, H, v, H' => beqV neg (valO σ x) (valO σ y) = some v ∧ H' = H
  | .len _ str x, σ, H, v, H' => lenV str (valO σ x) = some v ∧ H' = H
  | .isnil _ neg x, σ, H, v, H' => isnilV neg (valO σ x) = some v ∧ H' = H
  | .mm _ mx x y, σ, H, v, H' => mmV mx (valO σ x) (valO σ y) = some v ∧ H' = H
  | .box _ ck x src, σ, H, v, H' => valO σ x ≠ .undef ∧ v = .ref H.length 0 ∧ H' = eatH σ H src ++ [(ck, (valO σ x).cells)]
  | .alloc _ ck zs, _, H, v, H' => v = .ref H.length 0 ∧ H' = H ++ [(ck, zs)]
  | .loadB _ u n fl, σ, H, v, H' => (loadV H (valO σ u) n = some v ∧ (fl = true → v.isFlat = true)) ∧ H' = H
  | .storeB u x n src, σ, H, v, H' => valO σ x ≠ .undef ∧ storeV (eatH σ H src) (valO σ u) (valO σ x) n = some H' ∧ v = .undef
  | .fadd _ u off, σ, H, v, H' => faddV (valO σ u) off = some v ∧ H' = H
  | .iadd _ t e i, σ, H, v, H' => iaddV e (σ.getD t .undef) (valO σ i) = some v ∧ H' = H
  | .loadE _ t u n fl, σ, H, v, H' => (elemV (σ.getD t .undef) (σ.getD u .undef) n = some v ∧ (fl = true → v.isFlat = true)) ∧ H' = H
  | .storeE x u n y, σ, H, v, H' => storeEV (σ.getD x .undef) (σ.getD u .undef) (valO σ y) n = some v ∧ H' = H
  | .mks _ e by_ z l c, σ, H, v, H' => mksV e by_ z (valO σ l) (valO σ c) = some v ∧ H' = H
  | .lit _ e n xs ss, σ, H, v, H' => litOk n (xs.map (valO σ)) = true ∧ v = .sl e (xs.map (valO σ)) ∧ H' = eatsH σ H ss
  | .call _ g sg xs ss, σ, H, v, H' => callR (Tb g) lim sg (xs.map (valO σ)) (eatsH σ H ss) v H'
  | .callv _ f g nc sg xs ss, σ, H, v, H' => ∃ caps, valO σ f = .fn g caps ∧ caps.length = nc ∧ callR (Tb g) lim sg (xs.map (valO σ) ++ caps) (eatsH σ H ss) v H'
  | .mkfn _ g xs, σ, H, v, H' => isRefs (xs.map (valO σ)) = true ∧ v = .fn g (xs.map (valO σ)) ∧ H' = H
  | .app _ e by_ fl x y ss, σ, H, v, H' => appV e by_ fl (valO σ x) (valO σ y) = some v ∧ H' = eatsH σ H ss
  | .ext _ t j, σ, H, v, H' => extV (σ.getD t .undef) j = some v ∧ H' = H
  | .sidx _ x i, σ, H, v, H' => sidxV (valO σ x) (valO σ i) = some v ∧ H' = H
  | .callm _ g sg x xs src, σ, H, v, H' => argsV (limV true lim (eatH σ H src)) (eatH σ H src) sg.ps ((x :: xs).map (valO σ)) ∧ ∃ k w H2 σ1, Tb g (limV true lim (eatH σ H src)) ((x :: xs).map (valO σ)) (eatH σ H src) [k, w] H2 ∧ w ≠ .undef ∧ backV σ (eatH σ H src) src w = some (σ1, H') ∧ v = .tup (k :: σ1)
  | .boxm _ x, σ, H, v, H' => ∃ xs, valO σ x = .agg xs ∧ v = .ref H.length 0 ∧ H' = H ++ [(.own, xs)]
  | .ssl _ x lo hi, σ, H, v, H' => sslV (valO σ x) (lo.map (valO σ)) (hi.map (valO σ)) = some v ∧ H' = H
  | .sli _ e x lo hi mx, σ, H, v, H' => sliV e (valO σ x) (lo.map (valO σ)) (hi.map (valO σ)) (mx.map (valO σ)) = some v ∧ H' = H
  | .build _ zs ps ss, σ, H, v, H' => buildP zs (ps.map fun p => (p.1, p.2.1, valO σ p.2.2)) = some v ∧ H' = eatsH σ H ss
  | _, _, _, _, _ => False

/-- The contracts of the functions called. -/
def Known (P : Program) (E : Env) (Tb : Nat → Rel) : Prop :=
  (∀ g sg, E.sig g = some sg → SpecR P g sg (Tb g)) ∧ (∀ t g sg nc, E.vsig t = some (g, sg, nc) → SpecR P g sg (Tb g))

section
variable {X : Cx} {Γ : List G} {s : S} {L0 : Nat → Lab} {w0 : World} {K : KV} {o : Oper} {Q : Exit → Act → World → Prop} {E : Env} {Tb : Nat → Rel} {cop : COp} {Γ' : List G} {v : PV} {H' : Boxes}

theorem optK_mk {x : Option PV} {K : PV → Prop} {v : PV} (h : x = some v) (hk : K v) : optK x K := by rw [h]; exact hk
theorem sslV_none {x v : PV} (h : sslV x none none = some v) : ∃ b, x = .str b ∧ v = .str b := by
  unfold sslV at h
  split at h
  · rename_i s
    simp only [boundV] at h
    split at h
    · injection h with h
      refine ⟨s, rfl, ?_⟩
      rw [← h]
      congr 1
      ext1
      simp
    · cases h
  · cases h
theorem isBoolTy_eq {P : Program} {t : TypeId} (h : isBoolTy P t = true) : P.underlying t = some .bool := by
  unfold isBoolTy at h; split at h
  · assumption
  · cases h
theorem isStrTy_eq {P : Program} {t : TypeId} (h : isStrTy P t = true) : P.underlying t = some .string := by
  unfold isStrTy at h; split at h
  · assumption
  · cases h
theorem isSlTy_eq {P : Program} {t : TypeId} (h : isSlTy P t = true) : ∃ e, P.underlying t = some (.slice e) := by
  unfold isSlTy at h; split at h
  · exact ⟨_, by assumption⟩
  · cases h
theorem isNilC_eq {x : Operand} (h : isNilC x = true) : x = .const (.slice none 0 0) := by
  unfold isNilC at h; split at h
  · rfl
  · cases h
theorem negOf_eq {op : BinOp} {neg : Bool} (h : negOf op = some neg) : op = if neg then .neq else .eql := by
  unfold negOf at h; split at h <;> simp at h <;> subst h <;> rfl

theorem elabBin_sound {d : Nat} {op : BinOp} {T yt : TypeId} {x y : Operand} (hE : E.P = X.P) (he : elabBin E Γ d op T x y = some (cop, Γ')) (h : Sim X Γ s) (f : Fr X L0 w0 s.L s.w) (hd : d < Γ.length) (ho : o.dst = some d) (hop : o.op = .binOp op T x y yt)
    (hr : cop.run Tb X.lim s.σ s.H v H') (hk : K (cop.upd s.σ v) H') : o.wp X.P s.a s.w (Good X Γ' L0 w0 K) Q := by
  have bin : ∀ {a : COp × List G}, (if fl2 Γ x y = true then some (COp.bin d op x y, flG d Γ) else none) = some a → a = (cop, Γ') → o.wp X.P s.a s.w (Good X Γ' L0 w0 K) Q := by
    intro a ha haa
    subst haa
    split at ha
    · rename_i hfl
      simp only [Option.some.injEq, Prod.mk.injEq] at ha
      obtain ⟨rfl, rfl⟩ := ha
      simp only [fl2, Bool.and_eq_true, beq_iff_eq] at hfl
      obtain ⟨hr1, rfl⟩ := hr
      exact bin_sound h f hd ho hop hfl.1 hfl.2 (optK_mk hr1 hk)
    · cases ha
  unfold elabBin at he
  rw [hE] at he
  split at he
  · rename_i neg hneg
    split at he
    · rename_i hnil
      split at he
      · rename_i hc
        simp only [Option.some.injEq, Prod.mk.injEq] at he
        obtain ⟨rfl, rfl⟩ := he
        obtain ⟨hr1, rfl⟩ := hr
        have := isNilC_eq hnil
        subst this
        exact isnil_sound h f hd ho hop hc.2 (isSlTy_eq hc.1) (negOf_eq hneg) (optK_mk hr1 hk)
      · cases he
    · split at he
      · rename_i hb
        split at he
        · rename_i hfl
          simp only [Option.some.injEq, Prod.mk.injEq] at he
          obtain ⟨rfl, rfl⟩ := he
          obtain ⟨hr1, rfl⟩ := hr
          simp only [fl2, Bool.and_eq_true, beq_iff_eq] at hfl
          exact beq_sound h f hd ho hop hfl.1 hfl.2 (isBoolTy_eq hb) (negOf_eq hneg) (optK_mk hr1 hk)
        · cases he
      · exact bin he rfl
  · exact bin he rfl

theorem callOp_sound {c : Call} {d : Option Nat} (hE : E.P = X.P) (hT : Known X.P E Tb) (he : elabCallOp E Γ d c = some (cop, Γ')) (h : Sim X Γ s) (f : Fr X L0 w0 s.L s.w) (hd : ∀ d', d = some d' → d' < Γ.length) (ho : o.dst = d) (hop : o.op = .call c)
    (hr : cop.run Tb X.lim s.σ s.H v H') (hk : K (cop.upd s.σ v) H') : o.wp X.P s.a s.w (Good X Γ' L0 w0 K) Q := by
  obtain ⟨callee, args, ts⟩ := c
  unfold elabCallOp at he
  rw [hE] at he
  simp only at he
  split at he
  · -- len
    rename_i x d hargs
    have ha : args = #[x] := by apply Array.ext'; simpa using hargs
    subst ha
    split at he
    · rename_i t ht
      split at he
      · rename_i hdat
        split at he
        · rename_i hs
          simp only [Option.some.injEq, Prod.mk.injEq] at he
          obtain ⟨rfl, rfl⟩ := he
          obtain ⟨hr1, rfl⟩ := hr
          exact len_sound (str := true) h f (hd d rfl) ho hop ht hdat (isStrTy_eq hs) (optK_mk hr1 hk)
        · split at he
          · rename_i hs
            simp only [Option.some.injEq, Prod.mk.injEq] at he
            obtain ⟨rfl, rfl⟩ := he
            obtain ⟨hr1, rfl⟩ := hr
            exact len_sound (str := false) h f (hd d rfl) ho hop ht hdat (isSlTy_eq hs) (optK_mk hr1 hk)
          · cases he
      · cases he
    · cases he
  · rename_i x y d hargs
    have ha : args = #[x, y] := by apply Array.ext'; simpa using hargs
    subst ha
    split at he
    · rename_i hfl
      simp only [Option.some.injEq, Prod.mk.injEq] at he
      obtain ⟨rfl, rfl⟩ := he
      obtain ⟨hr1, rfl⟩ := hr
      simp only [fl2, Bool.and_eq_true, beq_iff_eq] at hfl
      exact mm_sound (mx := true) h f (hd d rfl) ho hop hfl.1 hfl.2 (optK_mk hr1 hk)
    · cases he
  · rename_i x y d hargs
    have ha : args = #[x, y] := by apply Array.ext'; simpa using hargs
    subst ha
    split at he
    · rename_i hfl
      simp only [Option.some.injEq, Prod.mk.injEq] at he
      obtain ⟨rfl, rfl⟩ := he
      obtain ⟨hr1, rfl⟩ := hr
      simp only [fl2, Bool.and_eq_true, beq_iff_eq] at hfl
      exact mm_sound (mx := false) h f (hd d rfl) ho hop hfl.1 hfl.2 (optK_mk hr1 hk)
    · cases he
  · rename_i x y d hargs
    have ha : args = #[x, y] := by apply Array.ext'; simpa using hargs
    subst ha
    split at he
    · rename_i T T' hts
      split at he
      · rename_i hTT
        subst hTT
        have ht : ts = #[T, T] := by apply Array.ext'; simpa using hts
        subst ht
        refine app_sound (E := E) hE he h f (hd d rfl) ho hop ?_
        obtain ⟨e, b, fl, ss, rfl⟩ : ∃ e b fl ss, cop = .app d e b fl x y ss := by
          unfold elabApp at he
          split at he
          · split at he
            · split at he
              · split at he
                · split at he
                  · split at he
                    · simp only [Option.some.injEq, Prod.mk.injEq] at he; exact ⟨_, _, _, _, he.1.symm⟩
                    · cases he
                  · cases he
                · cases he
              · cases he
            · cases he
          · cases he
        obtain ⟨h1, rfl⟩ := hr
        exact ⟨e, b, fl, ss, rfl, optK_mk h1 hk⟩
      · cases he
    · cases he
  · rename_i g
    split at he
    · rename_i sg hsg
      split at he
      · split at he
        · rename_i d0
          obtain ⟨x, xs, src, hcop, hxs⟩ : ∃ x xs src, cop = .callm d0 g sg x xs src ∧ args.toList = x :: xs := by
            unfold elabCallM at he
            repeat' split at he
            all_goals first
              | (rename_i hargs _ _ _ _ _ _ _ _ _; simp only [Option.some.injEq, Prod.mk.injEq] at he; exact ⟨_, _, _, he.1.symm, by assumption⟩)
              | cases he
          subst hcop
          obtain ⟨hr1, k, w, H2, σ1, hR, hw, hbk, rfl⟩ := hr
          exact callm_sound (hT.1 g sg hsg) he h f ho hop ⟨x, xs, src, rfl, hxs, hr1, _, _, hR, k, w, σ1, _, rfl, hw, hbk, hk⟩
        · cases he
      rename_i hmu
      split at he
      · rename_i ss Γ2 hc
        simp only [Option.some.injEq, Prod.mk.injEq] at he
        obtain ⟨rfl, rfl⟩ := he
        obtain ⟨hr1, rs, H2, hR, rfl, rfl⟩ := hr
        exact call_sound (by simpa using hmu) (hT.1 g sg hsg) hc h f ho hop ⟨hr1, rs, H2, hR, hk⟩
      · cases he
    · cases he
  · rename_i t
    split at he
    · rename_i g sg nc hsg
      split at he
      · rename_i hkd
        split at he
        · rename_i ss Γ2 hc
          simp only [Option.some.injEq, Prod.mk.injEq] at he
          obtain ⟨rfl, rfl⟩ := he
          obtain ⟨caps, hf, hcl, hr1, rs, H2, hR, rfl, rfl⟩ := hr
          exact callv_sound hkd.2 (hT.2 t g sg nc hsg) hc (by simpa using hkd.1) h f ho hop ⟨caps, hf, hcl, hr1, rs, H2, hR, hk⟩
        · cases he
      · cases he
    · cases he
  · cases he

theorem elabCopy_out {asg : Bool} {d : Nat} {x : Operand} (he : elabCopy asg E Γ d x = some (cop, Γ')) : (∃ src, cop = .take d x src) ∨ cop = .copy d x := by
  unfold elabCopy at he
  simp only at he
  repeat' split at he
  all_goals first
    | (simp only [Option.some.injEq, Prod.mk.injEq] at he; exact .inr he.1.symm)
    | (simp only [Option.some.injEq, Prod.mk.injEq] at he; exact .inl ⟨_, he.1.symm⟩)
    | cases he

theorem elabCopy_sound {asg : Bool} {d : Nat} {x : Operand} (he : elabCopy asg E Γ d x = some (cop, Γ')) (h : Sim X Γ s) (f : Fr X L0 w0 s.L s.w) (hd : d < Γ.length) (ho : o.dst = some d) (hop : ∀ ρ, execOp ρ o = pure (.value (ρ x)))
    (hr : cop.run Tb X.lim s.σ s.H v H') (hk : K (cop.upd s.σ v) H') : o.wp X.P s.a s.w (Good X Γ' L0 w0 K) Q := by
  refine copy_sound he hd ho hop h f ?_
  rcases elabCopy_out he with ⟨src, rfl⟩ | rfl
  · obtain ⟨h1, rfl, rfl⟩ := hr
    exact .inl ⟨src, rfl, h1, hk⟩
  · obtain ⟨rfl, rfl⟩ := hr
    exact .inr ⟨rfl, hk⟩

theorem op_sound (hE : E.P = X.P) (hT : Known X.P E Tb) (he : elabOp E Γ o = some (cop, Γ')) (h : Sim X Γ s) (f : Fr X L0 w0 s.L s.w)
    (hr : cop.run Tb X.lim s.σ s.H v H') (hk : K (cop.upd s.σ v) H') : o.wp X.P s.a s.w (Good X Γ' L0 w0 K) Q := by
  obtain ⟨dst, op, type, pos, after, guard⟩ := o
  unfold elabOp at he
  simp only at he
  split at he
  · rename_i d
    split at he
    · rename_i hd
      split at he
      · exact elabCopy_sound he h f hd rfl (fun ρ => rfl) hr hk
      · exact elabCopy_sound he h f hd rfl (fun ρ => rfl) hr hk
      · rename_i c a b
        split at he
        · rename_i hfl
          simp only [Option.some.injEq, Prod.mk.injEq] at he
          obtain ⟨rfl, rfl⟩ := he
          simp only [fl2, Bool.and_eq_true, beq_iff_eq] at hfl
          obtain ⟨⟨t, h1, rfl, h3⟩, rfl⟩ := hr
          refine pick_sound h f hd rfl rfl hfl.1 hfl.2.1 hfl.2.2 ?_
          rw [h1]
          show (t = true → _ ∧ _) ∧ (t = false → _ ∧ _)
          refine ⟨fun ht => ?_, fun ht => ?_⟩ <;> subst ht <;> exact ⟨h3, hk⟩
        · cases he
      · rename_i T
        refine alloc_sound hE he h f hd rfl rfl ?_
        obtain ⟨ck, zs, rfl⟩ : ∃ ck zs, cop = .alloc d ck zs := by
          unfold elabAlloc at he
          split at he
          · cases he
          · simp only at he
            split at he
            · split at he
              · cases he
              · simp only [Option.some.injEq, Prod.mk.injEq] at he; exact ⟨_, _, he.1.symm⟩
            · cases he
        obtain ⟨rfl, rfl⟩ := hr
        exact ⟨ck, zs, rfl, hk⟩
      · rename_i T x
        refine box_sound he h f hd rfl rfl ?_
        have hcop : (∃ ck src, cop = .box d ck x src) ∨ cop = .boxm d x := by
          unfold elabBox at he
          split at he
          · simp only [Option.some.injEq, Prod.mk.injEq] at he; exact .inl ⟨_, _, he.1.symm⟩
          · cases he
          · cases he
          · cases he
          · cases he
          · cases he
          · cases he
          · split at he
            · simp only [Option.some.injEq, Prod.mk.injEq] at he; exact .inr he.1.symm
            · cases he
          · simp only at he
            split at he
            · cases he
            · split at he
              · simp only [Option.some.injEq, Prod.mk.injEq] at he; exact .inl ⟨_, _, he.1.symm⟩
              · cases he
        rcases hcop with ⟨ck, src, rfl⟩ | rfl
        · obtain ⟨h1, rfl, rfl⟩ := hr
          exact .inl ⟨ck, src, rfl, h1, hk⟩
        · obtain ⟨xs, h1, rfl, rfl⟩ := hr
          exact .inr ⟨xs, rfl, h1, hk⟩
      · rename_i T n ps
        refine lit_sound hE he h f hd rfl rfl ?_
        obtain ⟨e, n', xs, ss, rfl⟩ : ∃ e n' xs ss, cop = .lit d e n' xs ss := by
          unfold elabLit at he
          split at he
          · split at he
            · split at he
              · simp only [Option.some.injEq, Prod.mk.injEq] at he; exact ⟨_, _, _, _, he.1.symm⟩
              · cases he
            · cases he
          · cases he
        obtain ⟨h1, rfl, rfl⟩ := hr
        exact ⟨e, n', xs, ss, rfl, h1, hk⟩
      · rename_i T u
        split at he
        · refine loadE_sound hE he h f hd rfl rfl ?_
          obtain ⟨t, u', n, fl, rfl⟩ : ∃ t u n fl, cop = .loadE d t u n fl := by
            unfold elabLoadE at he
            split at he
            · split at he
              · split at he
                · simp only [Option.some.injEq, Prod.mk.injEq] at he; exact ⟨_, _, _, _, he.1.symm⟩
                · cases he
              · split at he
                · split at he
                  · split at he
                    · cases he
                    · simp only [Option.some.injEq, Prod.mk.injEq] at he; exact ⟨_, _, _, _, he.1.symm⟩
                  · cases he
                split at he
                · split at he
                  · cases he
                  · simp only [Option.some.injEq, Prod.mk.injEq] at he; exact ⟨_, _, _, _, he.1.symm⟩
                · simp only [Option.some.injEq, Prod.mk.injEq] at he; exact ⟨_, _, _, _, he.1.symm⟩
                · cases he
            · cases he
          obtain ⟨⟨h1, h2⟩, rfl⟩ := hr
          exact ⟨t, u', n, fl, rfl, optK_mk h1 ⟨h2, hk⟩⟩
        · refine loadB_sound hE he h f hd rfl rfl ?_
          obtain ⟨n, fl, rfl⟩ : ∃ n fl, cop = .loadB d u n fl := by
            unfold elabLoadB at he
            split at he
            · split at he
              · simp only [Option.some.injEq, Prod.mk.injEq] at he; exact ⟨_, _, he.1.symm⟩
              · split at he
                · split at he
                  · cases he
                  · simp only [Option.some.injEq, Prod.mk.injEq] at he; exact ⟨_, _, he.1.symm⟩
                · cases he
            · cases he
          obtain ⟨⟨h1, h2⟩, rfl⟩ := hr
          exact ⟨n, fl, rfl, optK_mk h1 ⟨h2, hk⟩⟩
      · rename_i u
        split at he
        · rename_i ck m hkd
          simp only [Option.some.injEq, Prod.mk.injEq] at he
          obtain ⟨rfl, rfl⟩ := he
          obtain ⟨h1, rfl, rfl⟩ := hr
          exact nilCheck_sound h f hd rfl rfl hkd h1 hk
        · cases he
      · exact elabBin_sound hE he h f hd rfl rfl hr hk
      · rename_i op T x
        split at he
        · rename_i hfl
          simp only [Option.some.injEq, Prod.mk.injEq] at he
          obtain ⟨rfl, rfl⟩ := he
          obtain ⟨hr1, rfl⟩ := hr
          exact un_sound h f hd rfl rfl (by simpa using hfl) (optK_mk hr1 hk)
        · cases he
      · rename_i T T' x
        unfold elabConv at he
        rw [hE] at he
        split at he
        · rename_i hfl
          split at he
          · rename_i ht ht'
            simp only [Option.some.injEq, Prod.mk.injEq] at he
            obtain ⟨rfl, rfl⟩ := he
            obtain ⟨hr1, rfl⟩ := hr
            obtain ⟨b, h1, rfl⟩ := sslV_none hr1
            refine convStr_sound h f hd rfl rfl (by simpa using hfl) ht ht' ?_
            rw [h1]; exact hk
          · rename_i k ht ht'
            simp only [Option.some.injEq, Prod.mk.injEq] at he
            obtain ⟨rfl, rfl⟩ := he
            obtain ⟨hr1, rfl⟩ := hr
            exact conv_sound h f hd rfl rfl (by simpa using hfl) (by rw [ht]; rfl) ht' (optK_mk hr1 hk)
          · cases he
        · cases he
      · rename_i fn first caps
        refine mkfn_sound he h f hd rfl rfl ?_
        obtain ⟨g, xs, rfl⟩ : ∃ g xs, cop = .mkfn d g xs := by
          unfold elabMkfn at he
          split at he
          · split at he
            · simp only [Option.some.injEq, Prod.mk.injEq] at he; exact ⟨_, _, he.1.symm⟩
            · cases he
          · cases he
        obtain ⟨h1, rfl, rfl⟩ := hr
        exact ⟨g, xs, rfl, h1, hk⟩
      · rename_i T l c
        refine mks_sound hE he h f hd rfl rfl ?_
        obtain ⟨e, b, z, rfl⟩ : ∃ e b z, cop = .mks d e b z l c := by
          unfold elabMks at he
          split at he
          · split at he
            · split at he
              · split at he
                · simp only [Option.some.injEq, Prod.mk.injEq] at he; exact ⟨_, _, _, he.1.symm⟩
                · cases he
              · cases he
            · cases he
          · cases he
        obtain ⟨h1, rfl⟩ := hr
        exact ⟨e, b, z, rfl, optK_mk h1 hk⟩
      · rename_i St u fi
        refine fadd_sound hE he h f hd rfl rfl ?_
        obtain ⟨off, rfl⟩ : ∃ off, cop = .fadd d u off := by
          unfold elabFadd at he
          split at he
          · cases he
          · split at he
            · simp only [Option.some.injEq, Prod.mk.injEq] at he; exact ⟨_, he.1.symm⟩
            · split at he
              · split at he
                · cases he
                · simp only [Option.some.injEq, Prod.mk.injEq] at he; exact ⟨_, he.1.symm⟩
              · cases he
        obtain ⟨h1, rfl⟩ := hr
        exact ⟨off, rfl, optK_mk h1 hk⟩
      · rename_i T x i
        refine iadd_sound hE he h f hd rfl rfl ?_
        obtain ⟨t, e, rfl⟩ : ∃ t e, cop = .iadd d t e i := by
          unfold elabIadd at he
          split at he
          · split at he
            · simp only [Option.some.injEq, Prod.mk.injEq] at he; exact ⟨_, _, he.1.symm⟩
            · cases he
          · cases he
        obtain ⟨h1, rfl⟩ := hr
        exact ⟨t, e, rfl, optK_mk h1 hk⟩
      · rename_i x j
        refine ext_sound he h f hd rfl rfl ?_
        obtain ⟨t, rfl⟩ : ∃ t, cop = .ext d t j := by
          unfold elabExt at he
          split at he
          · split at he
            · cases he
            · split at he
              · split at he <;> simp only [Option.some.injEq, Prod.mk.injEq, reduceCtorEq] at he <;> exact ⟨_, he.1.symm⟩
              · cases he
          · cases he
        obtain ⟨h1, rfl⟩ := hr
        exact ⟨t, rfl, optK_mk h1 hk⟩
      · rename_i T x lo hi mx
        refine sli_sound hE he h f hd rfl rfl ?_
        have ho : (∃ e, cop = .sli d e x lo hi mx) ∨ cop = .ssl d x lo hi := by
          unfold elabSli at he
          repeat' split at he
          all_goals first
            | (simp only [Option.some.injEq, Prod.mk.injEq] at he; exact .inl ⟨_, he.1.symm⟩)
            | (simp only [Option.some.injEq, Prod.mk.injEq] at he; exact .inr he.1.symm)
            | cases he
        rcases ho with ⟨e, rfl⟩ | rfl
        · obtain ⟨h1, rfl⟩ := hr
          exact .inl ⟨e, rfl, optK_mk h1 hk⟩
        · obtain ⟨h1, rfl⟩ := hr
          exact .inr ⟨rfl, optK_mk h1 hk⟩
      · rename_i T ps
        refine build_sound hE he h f hd rfl rfl ?_
        obtain ⟨zs, ps', ss, rfl⟩ : ∃ zs ps ss, cop = .build d zs ps ss := by
          unfold elabBuild at he
          repeat' split at he
          all_goals first
            | (simp only [Option.some.injEq, Prod.mk.injEq] at he; exact ⟨_, _, _, he.1.symm⟩)
            | cases he
        obtain ⟨h1, rfl⟩ := hr
        exact ⟨zs, ps', ss, rfl, optK_mk h1 hk⟩
      · simp only [Option.some.injEq, Prod.mk.injEq] at he
        obtain ⟨rfl, rfl⟩ := he
        exact hr.elim
      · simp only [Option.some.injEq, Prod.mk.injEq] at he
        obtain ⟨rfl, rfl⟩ := he
        exact hr.elim
      · rename_i T x i
        split at he
        · rename_i hc
          simp only [Option.some.injEq, Prod.mk.injEq] at he
          obtain ⟨rfl, rfl⟩ := he
          simp only [fl2, Bool.and_eq_true, beq_iff_eq] at hc
          obtain ⟨h1, rfl⟩ := hr
          exact sidx_sound h f hd rfl rfl hc.2.1 hc.2.2 (isStrTy_eq (by rw [← hE]; exact hc.1)) (optK_mk h1 hk)
        · cases he
      · exact callOp_sound hE hT he h f (fun d' hd' => by injection hd' with hd'; subst hd'; exact hd) rfl rfl hr hk
      · cases he
    · cases he
  · split at he
    · rename_i T u x
      split at he
      · refine storeE_sound hE he h f rfl rfl ?_
        obtain ⟨y, u', n, rfl⟩ : ∃ y u n, cop = .storeE y u n x := by
          unfold elabStoreE at he
          split at he
          · split at he
            · split at he
              · simp only [Option.some.injEq, Prod.mk.injEq] at he; exact ⟨_, _, _, he.1.symm⟩
              · cases he
            · cases he
          · cases he
        obtain ⟨h1, rfl⟩ := hr
        exact ⟨y, u', n, rfl, optK_mk h1 hk⟩
      · refine storeB_sound hE he h f rfl rfl ?_
        obtain ⟨n, src, rfl⟩ : ∃ n src, cop = .storeB u x n src := by
          unfold elabStoreB at he
          split at he
          · split at he
            · cases he
            · split at he
              · split at he
                · simp only [Option.some.injEq, Prod.mk.injEq] at he; exact ⟨_, _, he.1.symm⟩
                · cases he
              · split at he
                · cases he
                · split at he
                  · simp only [Option.some.injEq, Prod.mk.injEq] at he; exact ⟨_, _, he.1.symm⟩
                  · cases he
          · cases he
        obtain ⟨h1, h2, _⟩ := hr
        exact ⟨n, src, rfl, h1, H', h2, hk⟩
    · exact callOp_sound hE hT he h f (fun d' hd' => by cases hd') rfl rfl hr hk
    · simp only [Option.some.injEq, Prod.mk.injEq] at he
      obtain ⟨rfl, rfl⟩ := he
      exact hr.elim
    · cases he

end
end Go.Den
set_option autoImplicit false
namespace Go.Den

/-! ### Operations one after the other, some of them guarded -/
structure GOp where
  cop : COp
  g : Option (Nat × Bool)
  d : Option Nat
  fl : Bool
  deriving Inhabited

def skipV (fl : Bool) : PV := if fl then .no else .undef
def GOp.run (Tb : Nat → Rel) (lim : Nat) (p : GOp) (σ : List PV) (H : Boxes) (σ' : List PV) (H' : Boxes) : Prop :=
  match p.g with
  | none => ∃ v, p.cop.run Tb lim σ H v H' ∧ σ' = p.cop.upd σ v
  | some (j, b) => match σ.getD j .undef with
    | .bool c => if c = b then ∃ v, p.cop.run Tb lim σ H v H' ∧ σ' = p.cop.upd σ v else σ' = setD σ p.d (skipV p.fl) ∧ H' = H
    | .no => σ' = setD σ p.d (skipV p.fl) ∧ H' = H
    | _ => False
def wpGs (Tb : Nat → Rel) (lim : Nat) : List GOp → KV → List PV → Boxes → Prop
  | [], K, σ, H => K σ H
  | g :: gs, K, σ, H => ∃ σ' H', g.run Tb lim σ H σ' H' ∧ wpGs Tb lim gs K σ' H'

def skipOk (d : Option Nat) (Γ Γ' : List G) : Bool :=
  match d with
  | none => leG Γ Γ'
  | some d => leG (setG none false d (Γ'.getD d .dead) Γ) Γ'
def elabG (E : Env) (ops : List Oper) (Γ : List G) (o : Oper) : Option (GOp × List G) :=
  match elabOp E Γ o with
  | none => none
  | some (cop, Γ') => match o.guard with
    | none => some (⟨cop, none, o.dst, false⟩, Γ')
    | some (j, b) => match (ops[j]?).bind (·.dst) with
      | none => none
      | some dj => if kdO Γ (.tmp dj) = .fl ∧ skipOk o.dst Γ Γ' = true ∧ (∀ d, o.dst = some d → d < Γ.length) then some (⟨cop, some (dj, b), o.dst, match o.dst with | some d => Γ'.getD d .dead == .fl | none => false⟩, Γ') else none
def elabL (E : Env) (ops : List Oper) : List Oper → List G → Option (List GOp × List G)
  | [], Γ => some ([], Γ)
  | o :: os, Γ => match elabG E ops Γ o with
    | none => none
    | some (g, Γ1) => match elabL E ops os Γ1 with
      | none => none
      | some (gs, Γ2) => some (g :: gs, Γ2)

section
variable {X : Cx} {Γ : List G} {s : S} {L0 : Nat → Lab} {w0 : World} {K : KV} {o : Oper} {Q : Exit → Act → World → Prop} {E : Env} {Tb : Nat → Rel} {Γ' : List G} {H' : Boxes}

theorem Good.mono {a : Act} {w : World} {K' : KV} (h : Good X Γ L0 w0 K a w) (hk : ∀ σ H, K σ H → K' σ H) : Good X Γ L0 w0 K' a w := by
  obtain ⟨s, h1, h2, h3, h4, h5⟩ := h
  exact ⟨s, h1, h2, h3, h4, hk _ _ h5⟩
theorem Good.weaken {a : Act} {w : World} (h : Good X Γ L0 w0 K a w) (hl : leG Γ Γ' = true) : Good X Γ' L0 w0 K a w := by
  obtain ⟨s, h1, h2, h3, h4, h5⟩ := h
  exact ⟨s, h1, h2, h3.weaken hl, h4, h5⟩

theorem skip_sound {d : Option Nat} {fl : Bool} (h : Sim X Γ s) (f : Fr X L0 w0 s.L s.w) (hs : skipOk d Γ Γ' = true) (hd : ∀ d', d = some d' → d' < Γ.length) (hfl : fl = true → ∃ d', d = some d' ∧ Γ'.getD d' .dead = .fl)
    (hk : K (setD s.σ d (skipV fl)) s.H) : Good X Γ' L0 w0 K (s.a.put d undef) s.w := by
  cases d with
  | none => exact ⟨s, rfl, rfl, h.weaken hs, f, hk⟩
  | some d =>
    refine ⟨s.put d (skipV fl) undef, rfl, rfl, Sim.weaken (h.set (g := Γ'.getD d .dead) (hd d rfl) ?_) hs, f, hk⟩
    cases fl with
    | false => exact .inl rfl
    | true =>
      obtain ⟨d', h1, h2⟩ := hfl rfl
      injection h1 with h1; subst h1
      rw [h2]
      exact .inr (.flat rfl)

/-- What the machine sees of a guard. -/
theorem yield_bool {ops : Array Oper} {j dj : Nat} {c : Bool} (h : Sim X Γ s) (hj : (ops[j]?).bind (·.dst) = some dj) (hk : kdO Γ (.tmp dj) = .fl) (hv : s.σ.getD dj .undef = .bool c) : yielded ops s.a.tmps j = some c := by
  have := (fl_of (x := .tmp dj) h hk hv (by simp)).bool_inv
  simp only [Act.eval] at this
  unfold yielded
  rw [hj]
  simp only [Option.bind_some]
  rw [Array.getD_eq_getD_getElem?] at this
  cases ht : s.a.tmps[dj]? with
  | none => rw [ht] at this; cases this
  | some x => rw [ht] at this; simp only [Option.getD_some] at this; subst this; rfl
theorem yield_no {ops : Array Oper} {j dj : Nat} (h : Sim X Γ s) (hj : (ops[j]?).bind (·.dst) = some dj) (hk : kdO Γ (.tmp dj) = .fl) (hv : s.σ.getD dj .undef = .no) : yielded ops s.a.tmps j = none := by
  have hr := fl_of (x := .tmp dj) h hk hv (by simp)
  have : s.a.eval (.tmp dj) = .tuple #[] := by
    cases hr with
    | flat h => simpa [PV.flat] using h.symm
  simp only [Act.eval] at this
  unfold yielded
  rw [hj]
  simp only [Option.bind_some]
  rw [Array.getD_eq_getD_getElem?] at this
  cases ht : s.a.tmps[dj]? with
  | none => rfl
  | some x => rw [ht] at this; simp only [Option.getD_some] at this; subst this; rfl

/-- One guarded operation. -/
theorem elabG_sound {ops : Array Oper} {g : GOp} {σ' : List PV} (hE : E.P = X.P) (hT : Known X.P E Tb) (he : elabG E ops.toList Γ o = some (g, Γ')) (h : Sim X Γ s) (f : Fr X L0 w0 s.L s.w)
    (hr : g.run Tb X.lim s.σ s.H σ' H') (hk : K σ' H') :
    if Region.wanted o (yielded ops s.a.tmps) then o.wp X.P s.a s.w (Good X Γ' L0 w0 K) Q else Good X Γ' L0 w0 K (s.a.put o.dst undef) s.w := by
  unfold elabG at he
  split at he
  · cases he
  · rename_i cop Γ1 hop
    split at he
    · rename_i hg
      simp only [Option.some.injEq, Prod.mk.injEq] at he
      obtain ⟨rfl, rfl⟩ := he
      obtain ⟨v, hr, rfl⟩ := hr
      rw [if_pos (by simp [Region.wanted, hg])]
      exact op_sound hE hT hop h f hr hk
    · rename_i j b hg
      split at he
      · cases he
      · rename_i dj hdj
        split at he
        · rename_i hc
          obtain ⟨hfl, hsk, hdl⟩ := hc
          simp only [Option.some.injEq, Prod.mk.injEq] at he
          obtain ⟨rfl, rfl⟩ := he
          have hdj' : (ops[j]?).bind (·.dst) = some dj := by simpa using hdj
          simp only [GOp.run] at hr
          have hskip : σ' = setD s.σ o.dst (skipV (match o.dst with | some d => Γ1.getD d .dead == .fl | none => false)) ∧ H' = s.H → Good X Γ1 L0 w0 K (s.a.put o.dst undef) s.w := by
            rintro ⟨rfl, rfl⟩
            refine skip_sound h f hsk hdl (fun hx => ?_) hk
            cases hd : o.dst with
            | none => rw [hd] at hx; cases hx
            | some d => rw [hd] at hx; exact ⟨d, rfl, by simpa using hx⟩
          split at hr
          · rename_i c hv
            have hy := yield_bool h hdj' hfl hv
            split at hr
            · rename_i hcb
              obtain ⟨v, hr, rfl⟩ := hr
              rw [if_pos (by simp [Region.wanted, hg, hy, hcb])]
              exact op_sound hE hT hop h f hr hk
            · rename_i hcb
              rw [if_neg (by simp [Region.wanted, hg, hy, hcb])]
              exact hskip hr
          · rename_i hv
            have hy := yield_no h hdj' hfl hv
            rw [if_neg (by simp [Region.wanted, hg, hy])]
            exact hskip hr
          · exact hr.elim
        · cases he

theorem elabL_sound {ops : Array Oper} (hE : E.P = X.P) (hT : Known X.P E Tb) : ∀ (l : List Oper) (Γ Γ' : List G) (gs : List GOp) (s : S), elabL E ops.toList l Γ = some (gs, Γ') → Sim X Γ s → Fr X L0 w0 s.L s.w → wpGs Tb X.lim gs K s.σ s.H →
    (∀ a w, Good X Γ' L0 w0 K a w → Q .normal a w) → wpList X.P ops Q l s.a s.w
  | [], Γ, Γ', gs, s, he, h, f, hk, hQ => by
    simp only [elabL, Option.some.injEq, Prod.mk.injEq] at he
    obtain ⟨rfl, rfl⟩ := he
    exact hQ _ _ ⟨s, rfl, rfl, h, f, hk⟩
  | o :: os, Γ, Γ', gs, s, he, h, f, hk, hQ => by
    simp only [elabL] at he
    split at he
    · cases he
    · rename_i g Γ1 he1
      split at he
      · cases he
      · rename_i gs' Γ2 he2
        simp only [Option.some.injEq, Prod.mk.injEq] at he
        obtain ⟨rfl, rfl⟩ := he
        obtain ⟨σ', H', hr, hk⟩ := hk
        refine wpList_step fun K' hK' => ?_
        have next : ∀ a w, Good X Γ1 L0 w0 (wpGs Tb X.lim gs' K) a w → K' a w := by
          rintro a w ⟨s1, rfl, rfl, h1, f1, k1⟩
          exact hK' _ _ (elabL_sound hE hT os Γ1 Γ2 gs' s1 he2 h1 f1 k1 hQ)
        have := elabG_sound (Q := Q) hE hT he1 h f hr (K := wpGs Tb X.lim gs' K) hk
        split
        · rename_i hw
          rw [if_pos hw] at this
          exact Oper.wp_mono next this
        · rename_i hw
          rw [if_neg hw] at this
          exact next _ _ this
end
end Go.Den
set_option autoImplicit false
namespace Go.Den

/-! ### Sameness by sight -/
def cSame : Value → Value → Bool
  | .int k n, .int k' n' => k == k' && n == n'
  | .bool b, .bool b' => b == b'
  | .string s, .string s' => decide (s = s')
  | .slice none 0 0, .slice none 0 0 => true
  | .pointer none, .pointer none => true
  | .nilFunc, .nilFunc => true
  | _, _ => false
theorem cSame_eq {a b : Value} (h : cSame a b = true) : a = b := by
  unfold cSame at h
  split at h <;> (try simp at h) <;> first | rfl | (obtain ⟨rfl, rfl⟩ := h; rfl) | (subst h; rfl)
def oSame : Operand → Operand → Bool
  | .tmp t, .tmp t' => t == t'
  | .const v, .const v' => cSame v v'
  | .func f, .func f' => f == f'
  | _, _ => false
theorem oSame_eq {a b : Operand} (h : oSame a b = true) : a = b := by
  unfold oSame at h
  split at h
  · simp at h; subst h; rfl
  · rw [cSame_eq h]
  · simp at h; subst h; rfl
  · cases h
def lSame : List Operand → List Operand → Bool
  | [], [] => true
  | x :: xs, y :: ys => oSame x y && lSame xs ys
  | _, _ => false
theorem lSame_eq : ∀ {a b : List Operand}, lSame a b = true → a = b
  | [], [], _ => rfl
  | x :: xs, y :: ys, h => by simp only [lSame, Bool.and_eq_true] at h; rw [oSame_eq h.1, lSame_eq h.2]
  | [], _ :: _, h => by cases h
  | _ :: _, [], h => by cases h
def pSame1 : PV → PV → Bool
  | .int k n, .int k' n' => k == k' && n == n'
  | .bool b, .bool b' => b == b'
  | .str s, .str s' => decide (s = s')
  | .nil, .nil => true
  | .nilp, .nilp => true
  | .nilf, .nilf => true
  | _, _ => false
theorem pSame1_eq {a b : PV} (h : pSame1 a b = true) : a = b := by
  unfold pSame1 at h
  split at h <;> (try simp at h) <;> first | rfl | (obtain ⟨rfl, rfl⟩ := h; rfl) | (subst h; rfl)
def pSames : List PV → List PV → Bool
  | [], [] => true
  | x :: xs, y :: ys => pSame1 x y && pSames xs ys
  | _, _ => false
theorem pSames_eq : ∀ {a b : List PV}, pSames a b = true → a = b
  | [], [], _ => rfl
  | x :: xs, y :: ys, h => by simp only [pSames, Bool.and_eq_true] at h; rw [pSame1_eq h.1, pSames_eq h.2]
  | [], _ :: _, h => by cases h
  | _ :: _, [], h => by cases h
def pSame : PV → PV → Bool
  | .agg xs, .agg ys => pSames xs ys
  | a, b => pSame1 a b
theorem pSame_eq {a b : PV} (h : pSame a b = true) : a = b := by
  unfold pSame at h
  split at h
  · rw [pSames_eq h]
  · exact pSame1_eq h
def psSame : List (Nat × Nat × Operand) → List (Nat × Nat × Operand) → Bool
  | [], [] => true
  | (i, k, x) :: xs, (j, l, y) :: ys => i == j && k == l && oSame x y && psSame xs ys
  | _, _ => false
theorem psSame_eq : ∀ {a b : List (Nat × Nat × Operand)}, psSame a b = true → a = b
  | [], [], _ => rfl
  | (i, k, x) :: xs, (j, l, y) :: ys, h => by simp only [psSame, Bool.and_eq_true, beq_iff_eq] at h; rw [h.1.1.1, h.1.1.2, oSame_eq h.1.2, psSame_eq h.2]
  | [], _ :: _, h => by cases h
  | _ :: _, [], h => by cases h
def ooSame : Option Operand → Option Operand → Bool
  | none, none => true
  | some x, some y => oSame x y
  | _, _ => false
theorem ooSame_eq {a b : Option Operand} (h : ooSame a b = true) : a = b := by
  unfold ooSame at h
  split at h
  · rfl
  · rw [oSame_eq h]
  · cases h

def COp.same : COp → COp → Bool
  | .copy d x, .copy d' x' => d == d' && oSame x x'
  | .take d x s, .take d' x' s' => d == d' && oSame x x' && decide (s = s')
  | .bin d op x y, .bin d' op' x' y' => d == d' && decide (op = op') && oSame x x' && oSame y y'
  | .un d op x, .un d' op' x' => d == d' && decide (op = op') && oSame x x'
  | .conv d k x, .conv d' k' x' => d == d' && k == k' && oSame x x'
  | .pick d a b c, .pick d' a' b' c' => d == d' && oSame a a' && oSame b b' && oSame c c'
  | .beq d n x y, .beq d' n' x' y' => d == d' && n == n' && oSame x x' && oSame y y'
  | .len d n x, .len d' n' x' => d == d' && n == n' && oSame x x'
  | .isnil d n x, .isnil d' n' x' => d == d' && n == n' && oSame x x'
  | .mm d n x y, .mm d' n' x' y' => d == d' && n == n' && oSame x x' && oSame y y'
  | .ext d t j, .ext d' t' j' => d == d' && t == t' && j == j'
  | .loadB d u n f, .loadB d' u' n' f' => d == d' && oSame u u' && decide (n = n') && f == f'
  | .storeB u x n s, .storeB u' x' n' s' => oSame u u' && oSame x x' && decide (n = n') && decide (s = s')
  | .fadd d u o, .fadd d' u' o' => d == d' && oSame u u' && o == o'
  | .iadd d t e i, .iadd d' t' e' i' => d == d' && t == t' && e == e' && oSame i i'
  | .loadE d t u n f, .loadE d' t' u' n' f' => d == d' && t == t' && u == u' && decide (n = n') && f == f'
  | .storeE x u n y, .storeE x' u' n' y' => x == x' && u == u' && decide (n = n') && oSame y y'
  | .sli d e x a b c, .sli d' e' x' a' b' c' => d == d' && e == e' && oSame x x' && ooSame a a' && ooSame b b' && ooSame c c'
  | .mks d e b z l c, .mks d' e' b' z' l' c' => d == d' && e == e' && b == b' && pSame z z' && oSame l l' && oSame c c'
  | .lit d e n xs ss, .lit d' e' n' xs' ss' => d == d' && e == e' && n == n' && lSame xs xs' && decide (ss = ss')
  | .build d zs ps ss, .build d' zs' ps' ss' => d == d' && pSames zs zs' && psSame ps ps' && decide (ss = ss')
  | .field d x o n f, .field d' x' o' n' f' => d == d' && oSame x x' && o == o' && decide (n = n') && f == f'
  | .app d e b fl x y ss, .app d' e' b' fl' x' y' ss' => d == d' && e == e' && b == b' && fl == fl' && oSame x x' && oSame y y' && decide (ss = ss')
  | .call d g sg xs ss, .call d' g' sg' xs' ss' => decide (d = d') && g == g' && decide (sg = sg') && lSame xs xs' && decide (ss = ss')
  | .callv d f g nc sg xs ss, .callv d' f' g' nc' sg' xs' ss' => decide (d = d') && oSame f f' && g == g' && nc == nc' && decide (sg = sg') && lSame xs xs' && decide (ss = ss')
  | .mkfn d g xs, .mkfn d' g' xs' => d == d' && g == g' && lSame xs xs'
  | .sidx d x y, .sidx d' x' y' => d == d' && oSame x x' && oSame y y'
  | .ssl d x a b, .ssl d' x' a' b' => d == d' && oSame x x' && ooSame a a' && ooSame b b'
  | .sstr d x, .sstr d' x' => d == d' && oSame x x'
  | .callm d g sg x xs s, .callm d' g' sg' x' xs' s' => d == d' && g == g' && decide (sg = sg') && oSame x x' && lSame xs xs' && decide (s = s')
  | .boxm d x, .boxm d' x' => d == d' && oSame x x'
  | _, _ => false
theorem COp.same_eq {a b : COp} (h : a.same b = true) : a = b := by
  unfold COp.same at h
  split at h <;> simp only [Bool.and_eq_true, beq_iff_eq, decide_eq_true_eq, Bool.false_eq_true] at h
  all_goals grind [oSame_eq, lSame_eq, ooSame_eq, pSame_eq, pSames_eq, psSame_eq]
end Go.Den
set_option autoImplicit false
namespace Go.Den

/-! ### What an operation reads, and whether it changes variables in memory -/
def opS : Operand → List Nat
  | .tmp t => [t]
  | _ => []
def srcS : Src → List Nat
  | .box u _ => [u]
  | _ => []
def srcN : Src → Bool
  | .box _ _ => false
  | _ => true
def oopS : Option Operand → List Nat
  | some x => opS x
  | none => []
def COp.rd : COp → List Nat
  | .fail => []
  | .copy _ x => opS x
  | .take _ x s => opS x ++ srcS s
  | .bin _ _ x y | .beq _ _ x y | .mm _ _ x y | .sidx _ x y => opS x ++ opS y
  | .un _ _ x | .conv _ _ x | .len _ _ x | .isnil _ _ x => opS x
  | .pick _ a b c => opS a ++ opS b ++ opS c
  | .ext _ t _ => [t]
  | .box _ _ x s => opS x ++ srcS s
  | .alloc _ _ _ => []
  | .loadB _ u _ _ => opS u
  | .storeB u x _ s => opS u ++ opS x ++ srcS s
  | .fadd _ u _ => opS u
  | .iadd _ t _ i => t :: opS i
  | .loadE _ t u _ _ => [t, u]
  | .storeE x u _ y => x :: u :: opS y
  | .sli _ _ x a b c => opS x ++ oopS a ++ oopS b ++ oopS c
  | .mks _ _ _ _ l c => opS l ++ opS c
  | .lit _ _ _ xs ss => xs.flatMap opS ++ ss.flatMap srcS
  | .build _ _ ps ss => (ps.map (·.2.2)).flatMap opS ++ ss.flatMap srcS
  | .field _ x _ _ _ => opS x
  | .app _ _ _ _ x y ss => opS x ++ opS y ++ ss.flatMap srcS
  | .call _ _ _ xs ss => xs.flatMap opS ++ ss.flatMap srcS
  | .callv _ f _ _ _ xs ss => opS f ++ xs.flatMap opS ++ ss.flatMap srcS
  | .mkfn _ _ xs => xs.flatMap opS
  | .ssl _ x a b => opS x ++ oopS a ++ oopS b
  | .sstr _ x => opS x
  | .callm _ _ _ x xs s => opS x ++ xs.flatMap opS ++ srcS s
  | .boxm _ x => opS x
/-- Variables in memory stay. -/
def COp.still : COp → Bool
  | .take _ _ s => srcN s
  | .box _ _ _ _ | .alloc _ _ _ | .storeB _ _ _ _ | .fail | .boxm _ _ | .callm _ _ _ _ _ _ => false
  | .lit _ _ _ _ ss | .build _ _ _ ss | .app _ _ _ _ _ _ ss => ss.all srcN
  | .call _ _ sg _ ss | .callv _ _ _ _ sg _ ss => sg.pure && ss.all srcN
  | _ => true

theorem valO_congr {σ σ' : List PV} {x : Operand} (h : ∀ y ∈ opS x, σ'.getD y .undef = σ.getD y .undef) : valO σ' x = valO σ x := by
  cases x with
  | tmp t => exact h t (by simp [opS])
  | _ => rfl
theorem valOs_congr {σ σ' : List PV} {xs : List Operand} (h : ∀ y ∈ xs.flatMap opS, σ'.getD y .undef = σ.getD y .undef) : xs.map (valO σ') = xs.map (valO σ) :=
  List.map_congr_left fun x hx => valO_congr fun y hy => h y (List.mem_flatMap.2 ⟨x, hx, hy⟩)
theorem eatH_congr {σ σ' : List PV} {H : Boxes} {s : Src} (h : ∀ y ∈ srcS s, σ'.getD y .undef = σ.getD y .undef) : eatH σ' H s = eatH σ H s := by
  cases s with
  | box u n => simp only [eatH]; rw [h u (by simp [srcS])]
  | _ => rfl
theorem eatsH_congr {σ σ' : List PV} : ∀ {ss : List Src} {H : Boxes}, (∀ y ∈ ss.flatMap srcS, σ'.getD y .undef = σ.getD y .undef) → eatsH σ' H ss = eatsH σ H ss
  | [], H, h => rfl
  | s :: ss, H, h => by
    simp only [eatsH]
    rw [eatH_congr fun y hy => h y (by simp [hy]), eatsH_congr fun y hy => h y (by simp only [List.flatMap_cons, List.mem_append]; exact .inr hy)]
theorem eatH_still {σ : List PV} {H : Boxes} {s : Src} (h : srcN s = true) : eatH σ H s = H := by cases s <;> first | rfl | cases h
theorem eatsH_still {σ : List PV} : ∀ {ss : List Src} {H : Boxes}, ss.all srcN = true → eatsH σ H ss = H
  | [], H, h => rfl
  | s :: ss, H, h => by
    simp only [List.all_cons, Bool.and_eq_true] at h
    simp only [eatsH]
    rw [eatH_still h.1, eatsH_still h.2]

theorem COp.run_loc {Tb : Nat → Rel} {lim : Nat} {cop : COp} {σ σ' : List PV} {H H' : Boxes} {v : PV} (hm : cop.isM = false) (h : ∀ y ∈ cop.rd, σ'.getD y .undef = σ.getD y .undef) (hr : cop.run Tb lim σ H v H') : cop.run Tb lim σ' H v H' := by
  have hO : ∀ x : Operand, (∀ y ∈ opS x, y ∈ cop.rd) → valO σ' x = valO σ x := fun x hx => valO_congr fun y hy => h y (hx y hy)
  have hOs : ∀ xs : List Operand, (∀ y ∈ xs.flatMap opS, y ∈ cop.rd) → xs.map (valO σ') = xs.map (valO σ) := fun x hx => valOs_congr fun y hy => h y (hx y hy)
  have hS : ∀ s : Src, (∀ y ∈ srcS s, y ∈ cop.rd) → eatH σ' H s = eatH σ H s := fun x hx => eatH_congr fun y hy => h y (hx y hy)
  have hSs : ∀ s : List Src, (∀ y ∈ s.flatMap srcS, y ∈ cop.rd) → eatsH σ' H s = eatsH σ H s := fun x hx => eatsH_congr fun y hy => h y (hx y hy)
  have hQ : ∀ x : Option Operand, (∀ y ∈ oopS x, y ∈ cop.rd) → x.map (valO σ') = x.map (valO σ) := fun x hx => by
    cases x with
    | none => rfl
    | some x => simp only [Option.map_some]; rw [hO x (fun y hy => hx y hy)]
  cases cop <;> simp only [COp.run, COp.rd] at hr h hO hOs hS hSs hQ ⊢
  case callm => cases hm
  case boxm d x => rw [hO x (by simp)]; exact hr
  case copy d x => rw [hO x (by simp)]; exact hr
  case take d x s => rw [hO x (by simp +contextual), hS s (by simp +contextual)]; exact hr
  case bin d op x y => rw [hO x (by simp +contextual), hO y (by simp +contextual)]; exact hr
  case un d op x => rw [hO x (by simp)]; exact hr
  case conv d k x => rw [hO x (by simp)]; exact hr
  case pick d a b c => rw [hO a (by simp +contextual), hO b (by simp +contextual), hO c (by simp +contextual)]; exact hr
  case beq d op x y => rw [hO x (by simp +contextual), hO y (by simp +contextual)]; exact hr
  case len d k x => rw [hO x (by simp)]; exact hr
  case isnil d k x => rw [hO x (by simp)]; exact hr
  case mm d op x y => rw [hO x (by simp +contextual), hO y (by simp +contextual)]; exact hr
  case box d ck x s => rw [hO x (by simp +contextual), hS s (by simp +contextual)]; exact hr
  case alloc d ck zs => exact hr
  case loadB d u n f => rw [hO u (by simp)]; exact hr
  case storeB u x n s => rw [hO u (by simp +contextual), hO x (by simp +contextual), hS s (by simp +contextual)]; exact hr
  case fadd d u o => rw [hO u (by simp)]; exact hr
  case iadd d t e i => rw [h t (by simp), hO i (by simp +contextual)]; exact hr
  case loadE d t u n f => rw [h t (by simp), h u (by simp)]; exact hr
  case storeE x u n y => rw [h x (by simp), h u (by simp), hO y (by simp +contextual)]; exact hr
  case mks d e b z l c => rw [hO l (by simp +contextual), hO c (by simp +contextual)]; exact hr
  case lit d e n xs ss => rw [hOs xs (by simp +contextual), hSs ss (by simp +contextual)]; exact hr
  case call d g sg xs ss => rw [hOs xs (by simp +contextual), hSs ss (by simp +contextual)]; exact hr
  case callv d f g nc sg xs ss => rw [hO f (by simp +contextual), hOs xs (by simp +contextual), hSs ss (by simp +contextual)]; exact hr
  case mkfn d g xs => rw [hOs xs (by simp +contextual)]; exact hr
  case ext d t j => rw [h t (by simp)]; exact hr
  case app d e b fl x y ss => rw [hO x (by simp +contextual), hO y (by simp +contextual), hSs ss (by simp +contextual)]; exact hr
  case sidx d x y => rw [hO x (by simp +contextual), hO y (by simp +contextual)]; exact hr
  case ssl d x a b => rw [hO x (by simp +contextual), hQ a (by simp +contextual), hQ b (by simp +contextual)]; exact hr
  case sli d e x a b c => rw [hO x (by simp +contextual), hQ a (by simp +contextual), hQ b (by simp +contextual), hQ c (by simp +contextual)]; exact hr
  case build d zs ps ss =>
    have e : (ps.map fun p => (p.1, p.2.1, valO σ' p.2.2)) = ps.map fun p => (p.1, p.2.1, valO σ p.2.2) := List.map_congr_left fun p hp => by
      rw [hO p.2.2 (fun y hy => List.mem_append_left _ (List.mem_flatMap.2 ⟨p.2.2, List.mem_map.2 ⟨p, hp, rfl⟩, hy⟩))]
    rw [e, hSs ss (by simp +contextual)]; exact hr

theorem COp.run_still {Tb : Nat → Rel} {lim : Nat} {cop : COp} {σ : List PV} {H H' : Boxes} {v : PV} (hs : cop.still = true) (hr : cop.run Tb lim σ H v H') : H' = H := by
  cases cop <;> simp only [COp.run, COp.still, Bool.false_eq_true] at hr hs
  case take d x s => rw [hr.2.2, eatH_still hs]
  case lit d e n xs ss => rw [hr.2.2, eatsH_still hs]
  case app d e b fl x y ss => rw [hr.2, eatsH_still hs]
  case call d g sg xs ss =>
    simp only [Bool.and_eq_true] at hs
    obtain ⟨_, rs, H2, _, _, rfl⟩ := hr
    rw [if_pos hs.1, eatsH_still hs.2]
  case callv d f g nc sg xs ss =>
    simp only [Bool.and_eq_true] at hs
    obtain ⟨caps, _, _, _, rs, H2, _, _, rfl⟩ := hr
    rw [if_pos hs.1, eatsH_still hs.2]
  case build d zs ps ss => rw [hr.2, eatsH_still hs]
  case mkfn d g xs => exact hr.2.2
  all_goals exact hr.2

/-! ### Updates -/
abbrev Upd := Option (Nat × PV)
def app (u : Upd) (σ : List PV) : List PV := match u with
  | some (d, v) => σ.set d v
  | none => σ
def updOf (d : Option Nat) (v : PV) : Upd := d.map fun d => (d, v)
theorem app_updOf (d : Option Nat) (v : PV) (σ : List PV) : app (updOf d v) σ = setD σ d v := by cases d <;> rfl

def GOp.rd (p : GOp) : List Nat := p.cop.rd ++ (match p.g with | some (j, _) => [j] | none => [])
def GOp.runU (Tb : Nat → Rel) (lim : Nat) (p : GOp) (σ : List PV) (H : Boxes) (u : Upd) (H' : Boxes) : Prop :=
  match p.g with
  | none => ∃ v, p.cop.run Tb lim σ H v H' ∧ u = updOf p.cop.dst v
  | some (j, b) => match σ.getD j .undef with
    | .bool c => if c = b then ∃ v, p.cop.run Tb lim σ H v H' ∧ u = updOf p.cop.dst v else u = updOf p.d (skipV p.fl) ∧ H' = H
    | .no => u = updOf p.d (skipV p.fl) ∧ H' = H
    | _ => False

theorem GOp.run_iff {Tb : Nat → Rel} {lim : Nat} {p : GOp} {σ σ' : List PV} {H H' : Boxes} (hm : p.cop.isM = false) : p.run Tb lim σ H σ' H' ↔ ∃ u, p.runU Tb lim σ H u H' ∧ σ' = app u σ := by
  unfold GOp.run GOp.runU
  simp only [COp.upd_eq hm]
  cases hg : p.g with
  | none =>
    simp only
    constructor
    · rintro ⟨v, h1, rfl⟩; exact ⟨_, ⟨v, h1, rfl⟩, (app_updOf _ _ _).symm⟩
    · rintro ⟨_, ⟨v, h1, rfl⟩, rfl⟩; exact ⟨v, h1, app_updOf _ _ _⟩
  | some jb =>
    obtain ⟨j, b⟩ := jb
    simp only
    cases σ.getD j .undef <;> simp only [false_and, exists_false]
    · constructor
      · rintro ⟨rfl, rfl⟩; exact ⟨_, ⟨rfl, rfl⟩, (app_updOf _ _ _).symm⟩
      · rintro ⟨_, ⟨rfl, rfl⟩, rfl⟩; exact ⟨app_updOf _ _ _, rfl⟩
    · split
      · constructor
        · rintro ⟨v, h1, rfl⟩; exact ⟨_, ⟨v, h1, rfl⟩, (app_updOf _ _ _).symm⟩
        · rintro ⟨_, ⟨v, h1, rfl⟩, rfl⟩; exact ⟨v, h1, app_updOf _ _ _⟩
      · constructor
        · rintro ⟨rfl, rfl⟩; exact ⟨_, ⟨rfl, rfl⟩, (app_updOf _ _ _).symm⟩
        · rintro ⟨_, ⟨rfl, rfl⟩, rfl⟩; exact ⟨app_updOf _ _ _, rfl⟩

theorem GOp.runU_loc {Tb : Nat → Rel} {lim : Nat} {p : GOp} {σ σ' : List PV} {H H' : Boxes} {u : Upd} (hm : p.cop.isM = false) (h : ∀ y ∈ p.rd, σ'.getD y .undef = σ.getD y .undef) (hr : p.runU Tb lim σ H u H') : p.runU Tb lim σ' H u H' := by
  have hc : ∀ v, p.cop.run Tb lim σ H v H' → p.cop.run Tb lim σ' H v H' := fun v => COp.run_loc hm fun y hy => h y (by simp [GOp.rd, hy])
  unfold GOp.runU at hr ⊢
  cases hg : p.g with
  | none =>
    rw [hg] at hr
    obtain ⟨v, h1, h2⟩ := hr
    exact ⟨v, hc v h1, h2⟩
  | some jb =>
    obtain ⟨j, b⟩ := jb
    rw [hg] at hr
    simp only at hr ⊢
    rw [h j (by simp [GOp.rd, hg])]
    cases hv : σ.getD j .undef <;> rw [hv] at hr <;> simp only at hr ⊢
    · exact hr
    · split
      · rename_i hcb
        rw [if_pos hcb] at hr
        obtain ⟨v, h1, h2⟩ := hr
        exact ⟨v, hc v h1, h2⟩
      · rename_i hcb
        rw [if_neg hcb] at hr
        exact hr

theorem GOp.runU_still {Tb : Nat → Rel} {lim : Nat} {p : GOp} {σ : List PV} {H H' : Boxes} {u : Upd} (hs : p.cop.still = true) (hr : p.runU Tb lim σ H u H') : H' = H := by
  unfold GOp.runU at hr
  cases hg : p.g with
  | none =>
    rw [hg] at hr
    obtain ⟨v, h1, _⟩ := hr
    exact COp.run_still hs h1
  | some jb =>
    obtain ⟨j, b⟩ := jb
    rw [hg] at hr
    simp only at hr
    split at hr
    · split at hr
      · obtain ⟨v, h1, _⟩ := hr
        exact COp.run_still hs h1
      · exact hr.2
    · exact hr.2
    · exact hr.elim

theorem GOp.runU_slot {Tb : Nat → Rel} {lim : Nat} {p : GOp} {σ : List PV} {H H' : Boxes} {d : Nat} {v : PV} (hd : p.d = none ∨ p.d = p.cop.dst ∨ p.g = none) (hr : p.runU Tb lim σ H (some (d, v)) H') : p.cop.dst = some d := by
  have up : ∀ {o : Option Nat} {w : PV}, some (d, v) = updOf o w → o = some d := by
    intro o w h
    cases o with
    | none => cases h
    | some e => simp only [updOf, Option.map_some, Option.some.injEq, Prod.mk.injEq] at h; rw [h.1]
  unfold GOp.runU at hr
  cases hg : p.g with
  | none =>
    rw [hg] at hr
    obtain ⟨w, _, h2⟩ := hr
    exact up h2
  | some jb =>
    obtain ⟨j, b⟩ := jb
    have hd' : p.d = some d → p.cop.dst = some d := fun h => by
      rcases hd with h1 | h1 | h1
      · rw [h1] at h; cases h
      · rw [← h1]; exact h
      · rw [hg] at h1; cases h1
    rw [hg] at hr
    simp only at hr
    split at hr
    · split at hr
      · obtain ⟨w, _, h2⟩ := hr
        exact up h2
      · exact hd' (up hr.1)
    · exact hd' (up hr.1)
    · exact hr.elim

/-- A run in the order of the text, told. -/
theorem wpGs_trace {Tb : Nat → Rel} {lim : Nat} {K : KV} : ∀ {gs : List GOp} {σ : List PV} {H : Boxes}, (gs.all fun g => !g.cop.isM) = true → wpGs Tb lim gs K σ H →
    ∃ (σs : Nat → List PV) (Hs : Nat → Boxes) (us : Nat → Upd), σs 0 = σ ∧ Hs 0 = H ∧ (∀ i g, gs[i]? = some g → g.runU Tb lim (σs i) (Hs i) (us i) (Hs (i + 1)) ∧ σs (i + 1) = app (us i) (σs i)) ∧ K (σs gs.length) (Hs gs.length)
  | [], σ, H, _, h => ⟨fun _ => σ, fun _ => H, fun _ => none, rfl, rfl, fun i g hg => by simp at hg, h⟩
  | g :: gs, σ, H, hm, h => by
    obtain ⟨σ1, H1, hr, hk⟩ := h
    simp only [List.all_cons, Bool.and_eq_true, Bool.not_eq_true'] at hm
    obtain ⟨u, hu, rfl⟩ := (GOp.run_iff hm.1).1 hr
    obtain ⟨σs, Hs, us, e1, e2, e3, e4⟩ := wpGs_trace hm.2 hk
    refine ⟨fun i => match i with | 0 => σ | i + 1 => σs i, fun i => match i with | 0 => H | i + 1 => Hs i, fun i => match i with | 0 => u | i + 1 => us i, rfl, rfl, fun i g' hg => ?_, e4⟩
    cases i with
    | zero =>
      simp only [List.getElem?_cons_zero, Option.some.injEq] at hg
      subst hg
      exact ⟨by simp only; rw [e2]; exact hu, e1⟩
    | succ i =>
      simp only [List.getElem?_cons_succ] at hg
      exact e3 i g' hg

end Go.Den
