/- Elements of slices, literals, calls, one operation whole. Conditions: none. -/
import Derived.Test.YtemnldkcemfmeaaDenA
import Derived.Great.FillDense
set_option linter.unusedVariables false
set_option linter.unusedSimpArgs false
set_option linter.unnecessarySimpa false
set_option autoImplicit false
namespace Go.Den

theorem flatten_len {xs : List PV} {n : Nat} (h : ∀ x ∈ xs, x.cells.length = n) : (flatten xs).length = xs.length * n := by
  induction xs with
  | nil => simp [flatten]
  | cons x xs ih =>
    have h1 := h x (by simp)
    have h2 := ih (fun y hy => h y (by simp [hy]))
    simp only [flatten, List.flatMap_cons, List.length_append] at h2 ⊢
    rw [h1, h2, List.length_cons, Nat.add_mul]; omega
theorem flatten_get {xs : List PV} {n : Nat} (h : ∀ x ∈ xs, x.cells.length = n) {i j : Nat} {x : PV} (hx : xs[i]? = some x) (hj : j < n) : (flatten xs).getD (i * n + j) .undef = x.cells.getD j .undef := by
  induction xs generalizing i with
  | nil => simp at hx
  | cons y ys ih =>
    have h1 := h y (by simp)
    cases i with
    | zero =>
      simp only [List.getElem?_cons_zero, Option.some.injEq] at hx
      subst hx
      simp only [flatten, List.flatMap_cons, Nat.zero_mul, Nat.zero_add, List.getD_eq_getElem?_getD]
      rw [List.getElem?_append_left (by omega)]
    | succ i =>
      simp only [List.getElem?_cons_succ] at hx
      have := ih (fun z hz => h z (by simp [hz])) hx
      simp only [flatten, List.flatMap_cons, List.getD_eq_getElem?_getD] at this ⊢
      rw [List.getElem?_append_right (by rw [h1, Nat.add_mul]; omega), h1, show (i + 1) * n + j - n = i * n + j by rw [Nat.add_mul]; omega]
      exact this

theorem add_add (a : Addr) (m n : Nat) : (a.add m).add n = a.add (m + n) := by
  unfold Addr.add
  by_cases hm : m = 0
  · subst hm; simp
  · by_cases hn : n = 0
    · subst hn; simp
    · simp [hm, hn, Nat.add_assoc]

/-- An element's cell. -/
theorem R.elem {P : Program} {w : World} {m : M} {fp : Nat → Prop} {e : Nat} {xs : List PV} {c : Value} (h : R P w m fp (.sl e xs) c) {i j : Nat} {x : PV} (hx : xs[i]? = some x) (hj : j < x.cells.length) :
    ∃ ad cap u, c = .slice (some ad) xs.length cap ∧ w.cell? (ad.add (i * P.cellsOf e + j)) = some u ∧ R P w m fp (x.cells.getD j .undef) u := by
  cases h with
  | flat h => simp [PV.flat] at h
  | row lab cs hsz hpos hrow hfp h =>
    obtain ⟨ad, cap, rfl, h1, h2, h3, h4⟩ := hrow.rep
    have hlen := flatten_len hsz
    have hxl := hsz x (List.mem_of_getElem? hx)
    have hi := (List.getElem?_eq_some_iff.1 hx).1
    have hq : i * P.cellsOf e + j < (flatten xs).length := by
      rw [hlen]
      have : (i + 1) * P.cellsOf e ≤ xs.length * P.cellsOf e := Nat.mul_le_mul_right _ hi
      rw [Nat.add_mul] at this; omega
    have hr := h _ hq
    rw [flatten_get hsz hx (by omega)] at hr
    have hcs : i * P.cellsOf e + j < cs.length := by rw [h3, ← hlen]; exact hq
    refine ⟨ad, cap, cs.getD (i * P.cellsOf e + j) Go.undef, rfl, ?_, hr.mono part_sub⟩
    rw [h4 _ _ (List.getElem?_eq_getElem hcs), List.getD_eq_getElem?_getD, List.getElem?_eq_getElem hcs]; rfl

def fieldOff (P : Program) (S : TypeId) (fi : Nat) : Option Nat :=
  match P.underlying S with
  | some (.struct fs) => match fs[fi]? with
    | some f => match P.info? f.type with
      | some i => if i.size = 0 then none else some f.offset
      | none => none
    | none => none
  | _ => none
def faddV (u : PV) (off : Nat) : Option PV :=
  match u with
  | .ref r j => some (.ref r (j + off))
  | .eix i j => some (.eix i (j + off))
  | _ => none
def elabFadd (E : Env) (Γ : List G) (d : Nat) (S : TypeId) (u : Operand) (fi : Nat) : Option (COp × List G) :=
  match fieldOff E.P S fi with
  | none => none
  | some off => match kdO Γ u with
    | .ptr ck m => some (.fadd d u off, setG none false d (.ptr ck m) Γ)
    | .ea t => if t = d then none else some (.fadd d u off, setG none false d (.ea t) Γ)
    | _ => none

def iaddV (e : Nat) (t i : PV) : Option PV :=
  match t, i with
  | .sl e' xs, .int _ n => if e' = e ∧ 0 ≤ n ∧ n.toNat < xs.length then some (.eix n.toNat 0) else none
  | _, _ => none
def elabIadd (E : Env) (Γ : List G) (d : Nat) (T : TypeId) (x i : Operand) : Option (COp × List G) :=
  match x, E.P.underlying T with
  | .tmp t, some (.slice e) => if t ≠ d ∧ ((kdO Γ x).data t).isSome = true ∧ kdO Γ i = .fl ∧ (E.P.info? e).isSome = true then some (.iadd d t e i, setG none false d (.ea t) Γ) else none
  | _, _ => none

def cellV (cs : List PV) (j : Nat) (n : Option Nat) : Option PV :=
  match n with
  | none => cs[j]?
  | some n => if j + n ≤ cs.length then some (.agg ((cs.drop j).take n)) else none
def elemV (t u : PV) (n : Option Nat) : Option PV :=
  match t, u with
  | .sl _ xs, .eix i j => match xs[i]? with
    | some x => cellV x.cells j n
    | none => none
  | _, _ => none
/-- What an element leads to. -/
def inKind : G → Nat → Option G
  | .own, t => some (.rd t)
  | .al x, _ => some (.rd x)
  | .rd x, _ => some (.rd x)
  | .sh, _ => some .sh
  | .fz, _ => some .fz
  | .rn, _ => some .rn
  | .bal _ _, _ => some .brd
  | .brd, _ => some .brd
  | .fl, _ => some .fl
  | _, _ => none
def elabLoadE (E : Env) (Γ : List G) (d : Nat) (T : TypeId) (x : Operand) : Option (COp × List G) :=
  match x, kdO Γ x, tyN E.P T with
  | .tmp u, .ea t, some n =>
    if flatTy E.P T then (if ((Γ.getD t .dead).data t).isSome then some (.loadE d t u n true, setG none false d .fl Γ) else none)
    else match inKind (Γ.getD t .dead) t with
      | some (.rd y) => if y = d then none else some (.loadE d t u n false, setG none false d (.rd y) Γ)
      | some g => some (.loadE d t u n false, setG none false d g Γ)
      | none => none
  | _, _, _ => none

section
variable {X : Cx} {Γ : List G} {s : S} {L0 : Nat → Lab} {w0 : World} {K : KV} {o : Oper} {Q : Exit → Act → World → Prop} {d : Nat}

theorem nilCheck_sound {u : Operand} {ck : CK} {m : Bool} (h : Sim X Γ s) (f : Fr X L0 w0 s.L s.w) (hd : d < Γ.length) (ho : o.dst = some d) (hop : o.op = .nilCheck u) (hkd : kdO Γ u = .ptr ck m)
    (hu : valO s.σ u ≠ .undef) (hk : K (s.σ.set d (valO s.σ u)) s.H) : o.wp X.P s.a s.w (Good X (setG none false d (.ptr ck m) Γ) L0 w0 K) Q := by
  have hp := h.opnd' hkd hu
  have hp' := hp
  obtain ⟨r, j, b, h1, h2, h3⟩ := hp
  refine good_set h f hd ho (c := s.a.eval u) ?_ (.inr hp') hk
  unfold execOp
  simp [hop, h2]

theorem fieldOff_run {P : Program} {S : TypeId} {fi off : Nat} (h : fieldOff P S fi = some off) (a : Addr) (w : World) : (Instr.fieldAt S (.pointer (some a)) fi).run P w = .ok (.pointer (some (a.add off))) w := by
  unfold fieldOff at h
  split at h
  · rename_i fs hfs
    split at h
    · rename_i f hf
      split at h
      · rename_i i hi
        split at h
        · cases h
        · rename_i hz
          injection h with h
          subst h
          unfold Instr.fieldAt
          simp [run_underlying hfs, hf, Instr.sureAddr, fieldPlace, run_sizeOf_info hi, hz]
      · cases h
    · cases h
  · cases h

theorem fadd_sound {E : Env} {St : TypeId} {u : Operand} {fi : Nat} {cop : COp} {Γ' : List G} (hE : E.P = X.P) (he : elabFadd E Γ d St u fi = some (cop, Γ')) (h : Sim X Γ s) (f : Fr X L0 w0 s.L s.w) (hd : d < Γ.length) (ho : o.dst = some d) (hop : o.op = .fieldAddr St u fi)
    (hk : ∃ off, cop = .fadd d u off ∧ optK (faddV (valO s.σ u) off) fun v => K (s.σ.set d v) s.H) : o.wp X.P s.a s.w (Good X Γ' L0 w0 K) Q := by
  obtain ⟨off, rfl, hk0⟩ := hk
  obtain ⟨v, hv, hk⟩ := hk0.get
  have hu : valO s.σ u ≠ .undef := by intro hu; rw [hu] at hv; cases hv
  unfold elabFadd at he
  split at he
  · cases he
  · rename_i off' hoff
    rw [hE] at hoff
    split at he
    · rename_i ck m hkd
      simp only [Option.some.injEq, Prod.mk.injEq, COp.fadd.injEq] at he
      obtain ⟨⟨_, _, rfl⟩, rfl⟩ := he
      obtain ⟨r, j, b, h1, h2, h3, h4, h5⟩ := h.opnd' hkd hu
      rw [h1] at hv
      simp only [faddV, Option.some.injEq] at hv
      subst hv
      refine good_set h f hd ho (c := .pointer (some ⟨s.bm r, j + off', none⟩)) ?_ (.inr ⟨r, j + off', b, rfl, rfl, h3, h4, h5⟩) hk
      unfold execOp
      simp [hop, h2, fieldOff_run hoff, Addr.add_lit]
    · rename_i t hkd
      split at he
      · cases he
      · rename_i hne
        simp only [Option.some.injEq, Prod.mk.injEq, COp.fadd.injEq] at he
        obtain ⟨⟨_, _, rfl⟩, rfl⟩ := he
        obtain ⟨i, j, e, xs, ad, cap, h1, h2, h3, h4, h5⟩ := h.opnd' hkd hu
        rw [h1] at hv
        simp only [faddV, Option.some.injEq] at hv
        subst hv
        refine good_set h f hd ho (c := .pointer (some (ad.add (i * X.P.cellsOf e + (j + off'))))) ?_ (.inr ⟨i, j + off', e, xs, ad, cap, rfl, (S.put_v_ne hne).trans h2, h3, (S.put_c_ne hne).trans h4, rfl⟩) hk
        unfold execOp
        simp [hop, h5, fieldOff_run hoff, add_add, Nat.add_assoc]
    · cases he

theorem iadd_sound {E : Env} {T : TypeId} {x i : Operand} {cop : COp} {Γ' : List G} (hE : E.P = X.P) (he : elabIadd E Γ d T x i = some (cop, Γ')) (h : Sim X Γ s) (f : Fr X L0 w0 s.L s.w) (hd : d < Γ.length) (ho : o.dst = some d) (hop : o.op = .indexAddr T x i)
    (hk : ∃ t e, cop = .iadd d t e i ∧ optK (iaddV e (s.σ.getD t .undef) (valO s.σ i)) fun v => K (s.σ.set d v) s.H) : o.wp X.P s.a s.w (Good X Γ' L0 w0 K) Q := by
  obtain ⟨t, e, rfl, hk0⟩ := hk
  obtain ⟨v, hv, hk⟩ := hk0.get
  unfold elabIadd at he
  split at he
  · rename_i t' e' hT
    rw [hE] at hT
    split at he
    · rename_i hc
      simp only [Option.some.injEq, Prod.mk.injEq, COp.iadd.injEq] at he
      obtain ⟨⟨_, rfl, rfl, _⟩, rfl⟩ := he
      obtain ⟨hne, hdat, hi, hinf⟩ := hc
      obtain ⟨p, hp⟩ := Option.isSome_iff_exists.1 hdat
      rw [hE] at hinf
      obtain ⟨inf, hinf⟩ := Option.isSome_iff_exists.1 hinf
      unfold iaddV at hv
      split at hv
      · rename_i e2 xs k n e1 e3
        split at hv
        · rename_i hcond
          obtain ⟨rfl, hn0, hn1⟩ := hcond
          injection hv with hv
          subst hv
          have h1 := data_of (x := .tmp t') h hp e1 (by simp)
          have h2 := (fl_of h hi e3 (by simp)).int_inv
          obtain ⟨ad, cap, hc, _, _⟩ := h1.sl_inv
          have hsz : inf.size = X.P.cellsOf e2 := by unfold Program.cellsOf; rw [hinf]; rfl
          refine good_set h f hd ho (c := .pointer (some (ad.add (n.toNat * X.P.cellsOf e2 + 0)))) ?_ (.inr ⟨n.toNat, 0, e2, xs, ad, cap, rfl, (S.put_v_ne hne).trans e1, hn1, (S.put_c_ne hne).trans hc, rfl⟩) hk
          unfold execOp
          have hlt : n < (xs.length : Int) := by omega
          simp [hop, Instr.indexAt, h2, asIntOf, run_underlying hT, hc, hn0, hlt, run_sizeOf_info hinf, hsz]
        · cases hv
      · cases hv
    · cases he
  · cases he

theorem inKind_data {g g' : G} {t i : Nat} {p : Lab → Prop} (hp : g.data t = some p) (hi : inKind g t = some g') : ∃ p', g'.data i = some p' ∧ (∀ l, p l → p' l) ∧ (∀ q, g' ≠ .own ∧ g' ≠ .tup q) ∧ (g' ≠ .dead) := by
  cases g <;> simp only [inKind, Option.some.injEq, reduceCtorEq] at hi <;> subst hi <;> simp only [G.data, Option.some.injEq] at hp <;> subst hp <;>
    exact ⟨_, rfl, fun l hl => hl, fun q => ⟨by simp, by simp⟩, by simp⟩

theorem loadE_sound {E : Env} {T : TypeId} {x : Operand} {cop : COp} {Γ' : List G} (hE : E.P = X.P) (he : elabLoadE E Γ d T x = some (cop, Γ')) (h : Sim X Γ s) (f : Fr X L0 w0 s.L s.w) (hd : d < Γ.length) (ho : o.dst = some d) (hop : o.op = .load T x)
    (hk : ∃ t u n fl, cop = .loadE d t u n fl ∧ optK (elemV (s.σ.getD t .undef) (s.σ.getD u .undef) n) fun v => (fl = true → v.isFlat = true) ∧ K (s.σ.set d v) s.H) : o.wp X.P s.a s.w (Good X Γ' L0 w0 K) Q := by
  obtain ⟨t, u, n, fl, rfl, hk0⟩ := hk
  obtain ⟨v, hv, hfl, hk⟩ := hk0.get
  clear hk0
  unfold elabLoadE at he
  split at he
  · rename_i u' t' n' hty hkd
    rw [hE] at hty
    -- what is read, in the kind of the row
    have main : t' = t → u' = u → n' = n → ∀ p m (g : G), Γ.getD t .dead = g → (R X.P s.w m (s.fp p) (s.v t) (s.c t)) → ∃ c, (execOp s.a.eval o).run X.P s.w = .ok (.value c) s.w ∧ R X.P s.w .rep (s.fp p) v c ∧ (m = .full → R X.P s.w .full (s.fp p) v c) := by
      rintro rfl rfl rfl p m g _ hr
      have huv : s.v u' ≠ .undef := by intro hx; unfold elemV at hv; rw [show s.σ.getD u' .undef = .undef from hx] at hv; split at hv <;> first | cases hv | (rename_i hh; cases hh)
      obtain ⟨i, j, e, xs, ad, cap, h1, h2, h3, h4, h5⟩ := h.opnd' hkd (by exact huv)
      simp only [valO, Act.eval] at h1 h5
      rw [h2] at hr
      unfold elemV at hv
      rw [show s.σ.getD t' .undef = .sl e xs from h2, h1] at hv
      simp only [List.getElem?_eq_getElem h3] at hv
      have hxi : xs[i]? = some xs[i] := List.getElem?_eq_getElem h3
      have cellAt : ∀ q, q < xs[i].cells.length → ∃ u, s.w.cell? (ad.add (i * X.P.cellsOf e + q)) = some u ∧ R X.P s.w m (s.fp p) (xs[i].cells.getD q .undef) u := fun q hq => by
        obtain ⟨ad', cap', u, g1, g2, g3⟩ := hr.elem hxi hq
        change s.c t' = _ at g1
        rw [h4] at g1
        injection g1 with g1 _ _
        injection g1 with g1
        subst g1
        exact ⟨u, g2, g3⟩
      have wk : ∀ {v c}, R X.P s.w m (s.fp p) v c → R X.P s.w .rep (s.fp p) v c ∧ (m = .full → R X.P s.w .full (s.fp p) v c) := fun hh => ⟨hh.rep, fun hm => by subst hm; exact hh⟩
      cases n' with
      | none =>
        simp only [cellV] at hv
        have hj := (List.getElem?_eq_some_iff.1 hv).1
        obtain ⟨c, g2, g3⟩ := cellAt j hj
        have : xs[i].cells.getD j .undef = v := by rw [List.getD_eq_getElem?_getD, hv]; rfl
        rw [this] at g3
        refine ⟨c, ?_, wk g3⟩
        unfold execOp
        simp only [hop, Instr.loadAt, Instr.sureAddr]
        rw [show s.a.eval (.tmp u') = .pointer (some (ad.add (i * X.P.cellsOf e + j))) from h5]
        simp [run_loadVar_one hty g2]
      | some n =>
        simp only [cellV] at hv
        split at hv
        · rename_i hn
          injection hv with hv
          subst hv
          have hcells : ∀ q, ∃ u, q < n → s.w.cell? (ad.add (i * X.P.cellsOf e + (j + q))) = some u ∧ R X.P s.w m (s.fp p) (xs[i].cells.getD (j + q) .undef) u := fun q => by
            by_cases hq : q < n
            · obtain ⟨u, hu⟩ := cellAt (j + q) (by omega); exact ⟨u, fun _ => hu⟩
            · exact ⟨undef, fun hh => absurd hh hq⟩
          have hch := fun q => Classical.choose_spec (hcells q)
          generalize hF : (fun q => Classical.choose (hcells q)) = F at *
          have hF' : ∀ q, q < n → s.w.cell? (ad.add (i * X.P.cellsOf e + (j + q))) = some (F q) ∧ R X.P s.w m (s.fp p) (xs[i].cells.getD (j + q) .undef) (F q) := fun q hq => by rw [← hF]; exact hch q hq
          have hagg : ∀ m', (∀ q, q < n → R X.P s.w m' (s.fp p) (xs[i].cells.getD (j + q) .undef) (F q)) → m' ≠ .own → R X.P s.w m' (s.fp p) (.agg ((xs[i].cells.drop j).take n)) (.agg ((List.range n).map F).toArray) := by
            intro m' hR hm'
            refine .agg (fun _ => 0) (by simp; omega) fun q hq => ?_
            have hq' : q < n := by simp at hq; omega
            have e1 : ((xs[i].cells.drop j).take n).getD q .undef = xs[i].cells.getD (j + q) .undef := by simp [List.getD_eq_getElem?_getD, hq']
            have e2 : ((List.range n).map F).toArray.getD q undef = F q := by simp [Array.getD, hq']
            rw [e1, e2]
            cases m' with
            | own => exact absurd rfl hm'
            | full => exact hR q hq'
            | rep => exact hR q hq'
          refine ⟨.agg ((List.range n).map F).toArray, ?_, hagg .rep (fun q hq => (hF' q hq).2.rep) (by simp), fun hm => hagg .full (fun q hq => by have := (hF' q hq).2; rwa [hm] at this) (by simp)⟩
          unfold execOp
          simp only [hop, Instr.loadAt, Instr.sureAddr]
          rw [show s.a.eval (.tmp u') = .pointer (some (ad.add (i * X.P.cellsOf e + j))) from h5]
          have := run_loadVar_agg hty (w := s.w) (a := ad.add (i * X.P.cellsOf e + j)) (f := F) (fun q hq => by rw [add_add, Nat.add_assoc]; exact (hF' q hq).1)
          simp [this]
        · cases hv
    have htu : valO s.σ (.tmp t') = s.v t' := rfl
    have hsl : t' = t → s.v t' ≠ .undef := by
      rintro rfl hx
      unfold elemV at hv
      rw [show s.σ.getD t' .undef = .undef from hx] at hv
      cases hv
    split at he
    · split at he
      · rename_i hdat
        obtain ⟨p, hp⟩ := Option.isSome_iff_exists.1 hdat
        simp only [Option.some.injEq, Prod.mk.injEq, COp.loadE.injEq] at he
        obtain ⟨⟨_, rfl, rfl, rfl, hf⟩, rfl⟩ := he
        obtain ⟨c, hrun, hr, _⟩ := main rfl rfl rfl p .rep _ rfl (data_of (x := .tmp t') h hp rfl (hsl rfl))
        exact good_set h f hd ho hrun (.inr (hr.ofFlat (hfl hf.symm))) hk
      · cases he
    · -- an element that leads on
      have inner : ∀ g, t' = t → u' = u → n' = n → inKind (Γ.getD t' .dead) t' = some g → (∀ y, g = .rd y → y ≠ d) → Γ' = setG none false d g Γ → o.wp X.P s.a s.w (Good X Γ' L0 w0 K) Q := by
        rintro g rfl rfl rfl hin hne rfl
        have hreal := h.opnd' (o := .tmp t') rfl (hsl rfl)
        change Real X s t' (s.v t') (s.c t') (Γ.getD t' .dead) at hreal
        have key : ∀ p m, R X.P s.w m (s.fp p) (s.v t') (s.c t') → (∀ c, R X.P s.w .rep (s.fp p) v c → (m = .full → R X.P s.w .full (s.fp p) v c) → Real X (s.put d v c) d v c g) → o.wp X.P s.a s.w (Good X (setG none false d g Γ) L0 w0 K) Q := by
          intro p m hr hg
          obtain ⟨c, hrun, hr1, hr2⟩ := main rfl rfl rfl p m _ rfl hr
          exact good_set h f hd ho hrun (.inr (hg c hr1 hr2)) hk
        generalize hgt : Γ.getD t' .dead = gt at hin hreal
        cases gt <;> simp only [inKind, Option.some.injEq, reduceCtorEq] at hin <;> subst hin
        case fl => exact key (fun _ => False) .rep hreal fun c h1 _ => h1
        case own => exact key _ _ hreal fun c h1 _ => h1
        case sh => exact key _ _ hreal fun c h1 _ => h1
        case fz => exact key _ _ hreal fun c _ h2 => h2 rfl
        case rn => exact key _ _ hreal fun c h1 _ => h1
        case rd y => exact key _ _ hreal fun c h1 _ => h1
        case al y => exact key _ _ hreal.1 fun c h1 _ => h1
        case bal u0 n0 =>
          obtain ⟨r, j, _, _, hb⟩ := bal_data h hreal
          refine key Lab.isB .rep (hb.rep.mono fun k hk' => ?_) fun c h1 _ => h1
          obtain ⟨j', hk', _⟩ := hk'
          show (s.L k).isB
          rw [hk']; trivial
        case brd => exact key _ _ hreal fun c h1 _ => h1
      split at he
      · rename_i y hin
        split at he
        · cases he
        · rename_i hne
          simp only [Option.some.injEq, Prod.mk.injEq, COp.loadE.injEq] at he
          obtain ⟨⟨_, e1, e2, e3, _⟩, e4⟩ := he
          exact inner _ e1 e2 e3 hin (fun z hz => by injection hz with hz; subst hz; exact hne) e4.symm
      · rename_i g hnr hin
        simp only [Option.some.injEq, Prod.mk.injEq, COp.loadE.injEq] at he
        obtain ⟨⟨_, e1, e2, e3, _⟩, e4⟩ := he
        exact inner _ e1 e2 e3 hin (fun z hz => by subst hz; exact absurd rfl (hnr z)) e4.symm
      · cases he
  · cases he
end
end Go.Den
set_option autoImplicit false
namespace Go.Den

theorem R.own_inv {P : Program} {w : World} {fp : Nat → Prop} {e : Nat} {xs : List PV} {c : Value} (h : R P w .own fp (.sl e xs) c) :
    ∃ g cap cur lab, c = .slice (some ⟨g, 0, none⟩) xs.length cap ∧ w.heap[g]? = some (.cells cur e (0, 0)) ∧ xs.length ≤ cap ∧ cap ≤ maxLen ∧ cur.size = cap * P.cellsOf e ∧ fp g ∧ (∀ x ∈ xs, x.cells.length = P.cellsOf e) ∧ 0 < P.cellsOf e ∧
      ∀ i, i < (flatten xs).length → R P w .own (part .own fp lab (some g) i) ((flatten xs).getD i .undef) (cur.getD i Go.undef) := by
  cases h with
  | flat h => simp [PV.flat] at h
  | row lab cs hsz hpos hrow hfp h =>
    obtain ⟨ho, hn⟩ := hrow
    rcases ho.2 with ⟨rfl, _⟩ | ⟨g, cap, cur, rfl, hg, hh, h1, h2, h3, h4⟩
    · exact absurd rfl hn
    · refine ⟨g, cap, cur, lab, rfl, hh, h1, h2, h3, hfp g rfl, hsz, hpos, fun i hi => ?_⟩
      have := h i hi
      have hi' : i < xs.length * P.cellsOf e := by rw [← flatten_len hsz]; exact hi
      have : cs.getD i Go.undef = cur.getD i Go.undef := by
        rw [← h4]
        simp only [List.getD_eq_getElem?_getD, Array.getD_eq_getD_getElem?, List.getElem?_take_of_lt hi', Array.getElem?_toList]
      rw [← this]; assumption

theorem R.own_mk {P : Program} {w : World} {fp : Nat → Prop} {e : Nat} {xs : List PV} {g cap : Nat} {cur : Array Value} (lab : Nat → Nat) (hh : w.heap[g]? = some (.cells cur e (0, 0))) (h1 : xs.length ≤ cap) (h2 : cap ≤ maxLen) (h3 : cur.size = cap * P.cellsOf e)
    (hfp : fp g) (hsz : ∀ x ∈ xs, x.cells.length = P.cellsOf e) (hpos : 0 < P.cellsOf e) (h : ∀ i, i < (flatten xs).length → R P w .own (part .own fp lab (some g) i) ((flatten xs).getD i .undef) (cur.getD i Go.undef)) :
    R P w .own fp (.sl e xs) (.slice (some ⟨g, 0, none⟩) xs.length cap) := by
  have hle : xs.length * P.cellsOf e ≤ cur.size := by rw [h3]; exact Nat.mul_le_mul_right _ h1
  refine .row lab (cur.toList.take (xs.length * P.cellsOf e)) hsz hpos ⟨⟨by simp; omega, .inr ⟨g, cap, cur, rfl, Nat.zero_le _, hh, h1, h2, h3, rfl⟩⟩, by simp [Value.ownBlock]⟩ (fun k hk => by simp [Value.ownBlock] at hk; subst hk; exact hfp) fun i hi => ?_
  have hi' : i < xs.length * P.cellsOf e := by rw [← flatten_len hsz]; exact hi
  have : (cur.toList.take (xs.length * P.cellsOf e)).getD i Go.undef = cur.getD i Go.undef := by
    simp only [List.getD_eq_getElem?_getD, Array.getD_eq_getD_getElem?, List.getElem?_take_of_lt hi', Array.getElem?_toList]
  rw [this]; exact h i hi

theorem flatten_set {xs : List PV} {n i : Nat} {x' : PV} (h : ∀ x ∈ xs, x.cells.length = n) (hx : x'.cells.length = n) (hi : i < xs.length) (q : Nat) :
    (flatten (xs.set i x')).getD q .undef = if i * n ≤ q ∧ q < i * n + n then x'.cells.getD (q - i * n) .undef else (flatten xs).getD q .undef := by
  induction xs generalizing i q with
  | nil => simp at hi
  | cons y ys ih =>
    have hy := h y (by simp)
    cases i with
    | zero =>
      simp only [List.set_cons_zero, flatten, List.flatMap_cons, Nat.zero_mul, Nat.zero_le, true_and, Nat.zero_add, Nat.sub_zero, List.getD_eq_getElem?_getD]
      by_cases hq : q < n
      · rw [if_pos hq, List.getElem?_append_left (by omega)]
      · rw [if_neg hq, List.getElem?_append_right (by omega), List.getElem?_append_right (by omega), hx, hy]
    | succ i =>
      have := ih (fun z hz => h z (by simp [hz])) (by simpa using hi) (q - n)
      simp only [List.set_cons_succ, flatten, List.flatMap_cons, List.getD_eq_getElem?_getD] at this ⊢
      by_cases hq : q < n
      · rw [List.getElem?_append_left (by omega), List.getElem?_append_left (by omega), if_neg (by rw [Nat.add_mul]; omega)]
      · rw [List.getElem?_append_right (by omega), List.getElem?_append_right (by omega), hy, this]
        have e1 : (i * n ≤ q - n ∧ q - n < i * n + n) ↔ ((i + 1) * n ≤ q ∧ q < (i + 1) * n + n) := by rw [Nat.add_mul]; omega
        by_cases hc : i * n ≤ q - n ∧ q - n < i * n + n
        · rw [if_pos hc, if_pos (e1.1 hc), show q - (i + 1) * n = q - n - i * n by rw [Nat.add_mul]; omega]
        · rw [if_neg hc, if_neg (fun h => hc (e1.2 h))]

def reCell (x : PV) (j : Nat) (y : PV) : PV :=
  match x with
  | .agg cs => .agg (putCells cs j y.cells)
  | _ => y
def reOk : PV → PV → Bool
  | .agg _, _ => true
  | _, .agg _ => false
  | _, _ => true
def storeEV (t u y : PV) (n : Option Nat) : Option PV :=
  match t, u with
  | .sl e xs, .eix i j => match xs[i]? with
    | some x => if nOk n y = true ∧ reOk x y = true ∧ y.cells.all PV.def1 = true ∧ y.isFlat = true ∧ j + y.cells.length ≤ x.cells.length then some (.sl e (xs.set i (reCell x j y))) else none
    | none => none
  | _, _ => none
def rootOf (Γ : List G) (t : Nat) : Option Nat :=
  match Γ.getD t .dead with
  | .own => some t
  | .al x => some x
  | _ => none
def elabStoreE (E : Env) (Γ : List G) (T : TypeId) (ua y : Operand) : Option (COp × List G) :=
  match ua, kdO Γ ua, tyN E.P T with
  | .tmp u, .ea t, some n => match rootOf Γ t with
    | some x => if kdO Γ y = .fl ∧ x < Γ.length then some (.storeE x u n y, setG (some x) false x .own Γ) else none
    | none => none
  | _, _, _ => none

section
variable {X : Cx} {Γ : List G} {s : S} {L0 : Nat → Lab} {w0 : World} {K : KV} {o : Oper} {Q : Exit → Act → World → Prop} {d : Nat}

theorem put_self (a : Act) (x : Nat) : a.put (some x) (a.tmps.getD x undef) = a := by
  obtain ⟨tmps, defs⟩ := a
  simp only [Act.put, Act.mk.injEq, and_true]
  apply Array.ext_getElem?
  intro i
  by_cases hx : x = i
  · subst hx
    by_cases hl : x < tmps.size
    · simp [hl, Array.getD]
    · simp [hl]
  · rw [Array.getElem?_setIfInBounds_ne hx]

theorem reCell_len {x y : PV} {j : Nat} (hr : reOk x y = true) (hj : j + y.cells.length ≤ x.cells.length) : (reCell x j y).cells.length = x.cells.length ∧ ∀ q, (reCell x j y).cells.getD q .undef = if j ≤ q ∧ q < j + y.cells.length then y.cells.getD (q - j) .undef else x.cells.getD q .undef := by
  by_cases hx : ∃ cs, x = .agg cs
  · obtain ⟨cs, rfl⟩ := hx
    change j + y.cells.length ≤ cs.length at hj
    refine ⟨putCells_len _ _ _ hj, fun q => ?_⟩
    show (putCells cs j y.cells).getD q .undef = if j ≤ q ∧ q < j + y.cells.length then y.cells.getD (q - j) .undef else cs.getD q .undef
    rw [putCells_eq _ _ _ hj, splice_get _ _ _ _ _ hj]
  · have hxc : x.cells = [x] := by cases x <;> first | rfl | exact absurd ⟨_, rfl⟩ hx
    have hyc : y.cells = [y] := by
      cases y <;> first | rfl | (exfalso; cases x <;> first | exact absurd ⟨_, rfl⟩ hx | cases hr)
    have hre : reCell x j y = y := by cases x <;> first | rfl | exact absurd ⟨_, rfl⟩ hx
    rw [hxc, hyc] at hj
    rw [hre, hxc, hyc]
    simp only [List.length_singleton] at hj ⊢
    obtain rfl : j = 0 := by omega
    refine ⟨trivial, fun q => ?_⟩
    by_cases hq : q = 0
    · subst hq; simp
    · rw [if_neg (by omega)]
      obtain ⟨q, rfl⟩ : ∃ m, q = m + 1 := ⟨q - 1, by omega⟩
      simp

theorem storeE_sound {E : Env} {T : TypeId} {ua y : Operand} {cop : COp} {Γ' : List G} (hE : E.P = X.P) (he : elabStoreE E Γ T ua y = some (cop, Γ')) (h : Sim X Γ s) (f : Fr X L0 w0 s.L s.w) (ho : o.dst = none) (hop : o.op = .store T ua y)
    (hk : ∃ x u n, cop = .storeE x u n y ∧ optK (storeEV (s.σ.getD x .undef) (s.σ.getD u .undef) (valO s.σ y) n) fun v => K (s.σ.set x v) s.H) : o.wp X.P s.a s.w (Good X Γ' L0 w0 K) Q := by
  obtain ⟨x, u, n, rfl, hk0⟩ := hk
  obtain ⟨v, hv, hk⟩ := hk0.get
  clear hk0
  unfold elabStoreE at he
  split at he
  · rename_i u' t n' hty hkd
    rw [hE] at hty
    split at he
    · rename_i x' hroot
      split at he
      · rename_i hc
        simp only [Option.some.injEq, Prod.mk.injEq, COp.storeE.injEq] at he
        obtain ⟨⟨rfl, rfl, rfl, _⟩, rfl⟩ := he
        obtain ⟨hy, hxl⟩ := hc
        -- the values
        unfold storeEV at hv
        split at hv
        · rename_i e xs i j e1 e2
          split at hv
          · rename_i x0 hx0
            split at hv
            · rename_i hcond
              obtain ⟨hn, hre, hdef, hflat, hj⟩ := hcond
              injection hv with hv
              subst hv
              -- the root is the call's own
              have hown : R X.P s.w .own (s.fp (· = .s x')) (.sl e xs) (s.c x') ∧ s.c t = s.c x' ∧ s.v t = s.v x' := by
                unfold rootOf at hroot
                split at hroot
                · rename_i hg
                  injection hroot with hroot; subst hroot
                  have := h.opnd' (o := .tmp t) hg (by show s.v t ≠ _; rw [show s.v t = _ from e1]; simp)
                  change R X.P s.w .own (s.fp (· = .s t)) (s.v t) (s.c t) at this
                  rw [show s.v t = _ from e1] at this
                  exact ⟨this, rfl, rfl⟩
                · rename_i z hg
                  injection hroot with hroot; subst hroot
                  by_cases htu : s.v t = .undef
                  · exfalso
                    have hu := h.opnd' (o := .tmp u') hkd (by show s.σ.getD u' .undef ≠ _; rw [e2]; simp)
                    obtain ⟨_, _, _, _, _, _, _, h2, _⟩ := hu
                    rw [htu] at h2; cases h2
                  · have := h.opnd' (o := .tmp t) hg htu
                    obtain ⟨g1, g2, g3⟩ := this
                    change s.v t = s.v z at g2
                    change s.c t = s.c z at g3
                    rw [show valO s.σ (.tmp t) = s.v t from rfl, g2, show s.v z = _ from e1] at g1
                    rw [show s.a.eval (.tmp t) = s.c t from rfl, g3] at g1
                    exact ⟨g1, g3, g2⟩
                · cases hroot
              obtain ⟨hown, hct, hvt⟩ := hown
              obtain ⟨g, cap, cur, lab, hcx, hh, h1, h2, h3, hfp, hsz, hpos, hcl⟩ := hown.own_inv
              -- the address
              have hu := h.opnd' (o := .tmp u') hkd (by show s.σ.getD u' .undef ≠ _; rw [e2]; simp)
              obtain ⟨i2, j2, ee, xs2, ad, cap2, q1, q2, q3, q4, q5⟩ := hu
              change s.σ.getD u' .undef = _ at q1
              rw [e2] at q1
              injection q1 with q1a q1b
              subst q1a; subst q1b
              rw [hvt, show s.v x' = _ from e1] at q2
              injection q2 with q2a q2b
              subst q2a; subst q2b
              rw [hct, hcx] at q4
              injection q4 with q4a _ _
              injection q4a with q4a
              subst q4a
              rw [Addr.add_lit, Nat.zero_add] at q5
              -- the new cells
              have hyr := fl_of h hy rfl (by intro hx; rw [hx] at hdef; simp [PV.cells, PV.def1] at hdef)
              obtain ⟨_, hysz, hyc⟩ := hyr.cells (by intro hx; rw [hx] at hdef; simp [PV.cells, PV.def1] at hdef)
              let p := i * X.P.cellsOf e + j
              have hx0l := hsz x0 (List.mem_of_getElem? hx0)
              have hp : p + (s.a.eval y).cells.size ≤ cur.size := by
                have : (i + 1) * X.P.cellsOf e ≤ cap * X.P.cellsOf e := Nat.mul_le_mul_right _ (by omega)
                rw [Nat.add_mul] at this
                rw [hysz, h3]
                simp only [p]
                omega
              have hone : ∀ u ∈ (s.a.eval y).cells.toList, u.oneCell' = true := by
                intro z hz
                obtain ⟨q, hq, rfl⟩ := List.getElem_of_mem hz
                have hq' : q < (valO s.σ y).cells.length := by simpa [← hysz] using hq
                have := (hyc q hq').oneCell (by
                  simp only [List.all_eq_true] at hdef
                  exact hdef _ (by rw [List.getD_eq_getElem?_getD, List.getElem?_eq_getElem hq', Option.getD_some]; exact List.getElem_mem hq'))
                simpa [Array.getD, show q < (s.a.eval y).cells.size by omega] using this
              have hnc : (s.a.eval y).cells.size = n'.getD 1 := by
                rw [hysz]
                cases n' with
                | none => revert hn; cases valO s.σ y <;> simp [nOk, PV.cells]
                | some n => revert hn; cases valO s.σ y <;> simp [nOk, PV.cells]
              have hst := run_storeVar hty hh (c := s.a.eval y) (j := p) hnc hp hone
              let cur' : Array Value := (cur.toList.take p ++ (s.a.eval y).cells.toList ++ cur.toList.drop (p + (s.a.eval y).cells.size)).toArray
              have hrun : (execOp s.a.eval o).run X.P s.w = .ok .skip (s.w.setRow g cur') := by
                unfold execOp
                simp only [hop, Instr.storeAt, Instr.sureAddr, Sem.run_bind]
                rw [show s.a.eval (.tmp u') = .pointer (some ⟨g, p, none⟩) from q5]
                simp only [Sem.run_pure, Result.andThen_ok, hst]
                rfl
              have hgb : s.L g = .s x' := hfp
              let s1 : S := { s with w := s.w.setRow g cur' }
              have hother : ∀ k, s.L k ≠ .s x' → s1.w.heap[k]? = s.w.heap[k]? := fun k hk => setRow_other _ _ _ _ (by rintro rfl; exact hk hgb)
              have hst1 : Stay (some x') false s s1 := ⟨rfl, rfl, fun k hk _ => ⟨rfl, hother k (hk.1 x' rfl)⟩, fun r b hb => ⟨b, hb, rfl, rfl, fun _ _ => ⟨rfl, by
                obtain ⟨_, _, _, g2, _⟩ := h.box r b hb
                exact hother _ (by rw [g2]; simp)⟩⟩⟩
              have hbox : ∀ r b, s1.H[r]? = some b → BoxOk X s1 r b := fun r b hb => by
                have hbo := h.box r b hb
                obtain ⟨_, _, _, g2, _⟩ := hbo
                refine BoxOk.step (h.box r b hb) ⟨rfl, hother _ (by rw [g2]; simp)⟩ (fun k hk => ⟨rfl, hother k ?_⟩) (H_lt hb) (Nat.le_refl _) (fun _ _ => rfl)
                rcases hk with ⟨j, hk⟩ | hk | hk <;> rw [hk] <;> simp
              have hsize : s1.w.heap.size = s.w.heap.size := setRow_size _ _ _
              obtain ⟨rc1, rc2⟩ := reCell_len hre hj
              have hnew : R X.P s1.w .own (s1.fp (· = .s x')) (.sl e (xs.set i (reCell x0 j (valO s.σ y)))) (s.c x') := by
                rw [hcx]
                have hlen : (xs.set i (reCell x0 j (valO s.σ y))).length = xs.length := by simp
                rw [← hlen]
                refine R.own_mk (cur := cur') lab (setRow_heap s.w g cur cur' e (0, 0) hh) (by rw [hlen]; exact h1) h2 (by simp only [cur']; simp; omega) hgb ?_ hpos fun q hq => ?_
                · intro z hz
                  rcases List.mem_or_eq_of_mem_set hz with hz | rfl
                  · exact hsz z hz
                  · rw [rc1]; exact hx0l
                · have hil : i < xs.length := q3
                  have hflen : (flatten xs).length = xs.length * X.P.cellsOf e := flatten_len hsz
                  have hq' : q < (flatten xs).length := by
                    rw [hflen]
                    have := flatten_len (xs := xs.set i (reCell x0 j (valO s.σ y))) (n := X.P.cellsOf e) (by
                      intro z hz
                      rcases List.mem_or_eq_of_mem_set hz with hz | rfl
                      · exact hsz z hz
                      · rw [rc1]; exact hx0l)
                    rw [this, hlen] at hq; exact hq
                  have e3 : cur'.getD q undef = if p ≤ q ∧ q < p + (s.a.eval y).cells.size then (s.a.eval y).cells.getD (q - p) undef else cur.getD q undef := by
                    have := splice_get cur.toList (s.a.eval y).cells.toList p q undef (by simpa using hp)
                    have conv : ∀ l : List Value, l.toArray.getD q undef = l.getD q undef := fun l => by simp [Array.getD_eq_getD_getElem?, List.getD_eq_getElem?_getD]
                    have conv' : ∀ (arr : Array Value) (m : Nat), arr.getD m undef = arr.toList.getD m undef := fun arr m => by simp [Array.getD_eq_getD_getElem?, List.getD_eq_getElem?_getD]
                    simp only [cur']
                    rw [conv, conv' (s.a.eval y).cells, conv' cur, ← Array.length_toList, this]
                  rw [flatten_set hsz (by rw [rc1]; exact hx0l) hil, e3]
                  have hxi : (flatten xs).getD q .undef = (flatten xs).getD q .undef := rfl
                  by_cases hin : p ≤ q ∧ q < p + (s.a.eval y).cells.size
                  · rw [if_pos hin, if_pos (by simp only [p] at hin; omega), rc2, if_pos (by simp only [p] at hin; omega)]
                    rw [show q - i * X.P.cellsOf e - j = q - p by simp only [p]; omega]
                    exact (hyc (q - p) (by omega)).nowhere fun k hk => (part_sub k hk).elim
                  · rw [if_neg hin]
                    have hold := hcl q hq'
                    have hvq : (if i * X.P.cellsOf e ≤ q ∧ q < i * X.P.cellsOf e + X.P.cellsOf e then (reCell x0 j (valO s.σ y)).cells.getD (q - i * X.P.cellsOf e) .undef else (flatten xs).getD q .undef) = (flatten xs).getD q .undef := by
                      by_cases hq2 : i * X.P.cellsOf e ≤ q ∧ q < i * X.P.cellsOf e + X.P.cellsOf e
                      · rw [if_pos hq2, rc2, if_neg (by simp only [p] at hin; omega)]
                        have := flatten_get hsz hx0 (j := q - i * X.P.cellsOf e) (by omega)
                        rw [← this]; congr 1; omega
                      · rw [if_neg hq2]
                    rw [hvq]
                    exact (R.frame hold fun k hk => setRow_other _ _ _ _ (by rintro rfl; exact hk.2.1 rfl)).mono fun k hk => hk
              have hfin := h.put (d := x') (g := .own) (c := s.c x') hst1 hxl hbox (fun k hk => h.top k (by rw [hsize] at hk; exact hk)) (.inr hnew)
              refine op_skip hrun ?_
              rw [ho]
              refine ⟨_, ?_, ?_, hfin, ?_, hk⟩
              · show s.a.put (some x') (s.a.tmps.getD x' undef) = s.a
                exact put_self _ _
              · rfl
              · refine f.trans ⟨rfl, rfl, rfl, by show s.w.heap.size ≤ (s.w.setRow g cur').heap.size; rw [setRow_size]; exact Nat.le_refl _, fun k _ hl => ⟨?_, rfl⟩⟩
                exact setRow_other _ _ _ _ (by rintro rfl; rw [hgb] at hl; exact hl)
            · cases hv
          · cases hv
        · cases hv
      · cases he
    · cases he
  · cases he
end
end Go.Den
set_option autoImplicit false
namespace Go.Den

/-! ### Several values taken in hand -/
def eats : List (Option TK) → List Operand → List G → Option (List G × List Src)
  | [], [], Γ => some (Γ, [])
  | none :: ms, _ :: xs, Γ => match eats ms xs Γ with
    | some (Γ', ss) => some (Γ', .none :: ss)
    | none => none
  | some m :: ms, x :: xs, Γ => match eat m Γ x with
    | some (Γ1, src) => match eats ms xs Γ1 with
      | some (Γ', ss) => some (Γ', src :: ss)
      | none => none
    | none => none
  | _, _, _ => none
def eatsH (σ : List PV) (H : Boxes) : List Src → Boxes
  | [] => H
  | s :: ss => eatsH σ (eatH σ H s) ss

theorem eatsH_len {σ : List PV} : ∀ (ss : List Src) (H : Boxes), (eatsH σ H ss).length = H.length
  | [], _ => rfl
  | s :: ss, H => by rw [eatsH, eatsH_len ss]; exact eatH_len

def okHands (m : Option TK) (v : PV) : Prop := m = none ∨ v ≠ .undef

theorem TkOk.after {X : Cx} {s : S} {L' : Nat → Lab} {H' : Boxes} {i : Nat} {v : PV} {c : Value} {m : TK} (h : TkOk X.P s (.res i) v c m) (ht : ∀ k, s.w.heap.size ≤ k → s.L k = .no) (hf : Fr X s.L s.w L' s.w) (hr : ∀ k j, s.L k = .res j → L' k = .res j) :
    TkOk X.P { s with L := L', H := H' } (.res i) v c m := by
  have lt : ∀ k l, s.L k = l → l ≠ .no → k < s.w.heap.size := fun k l hk hl => by
    rcases Nat.lt_or_ge k s.w.heap.size with h1 | h1
    · exact h1
    · exact absurd (hk ▸ ht k h1) hl
  cases m with
  | fl => exact R.nowhere h fun _ h => h
  | own => exact R.step (s' := { s with L := L', H := H' }) h fun k hk => ⟨(hr k i hk).trans hk.symm, rfl⟩
  | sh => exact R.step (s' := { s with L := L', H := H' }) h fun k hk => ⟨(hf.keep k (lt k _ hk (by simp)) (by rw [show s.L k = _ from hk]; trivial)).2, rfl⟩
  | fz => exact R.step (s' := { s with L := L', H := H' }) h fun k hk => ⟨(hf.keep k (lt k _ hk (by simp)) (by rw [show s.L k = _ from hk]; trivial)).2, rfl⟩

theorem Sim.eats {X : Cx} : ∀ (ms : List (Option TK)) (xs : List Operand) (Γ Γ' : List G) (s : S) (ss : List Src) (i0 : Nat), Sim X Γ s → eats ms xs Γ = some (Γ', ss) →
    (∀ (j : Nat) (m : Option TK) (x : Operand), ms[j]? = some m → xs[j]? = some x → okHands m (valO s.σ x)) →
    ∃ L', Sim X Γ' { s with L := L', H := eatsH s.σ s.H ss } ∧ (∀ (j : Nat) (m : TK) (x : Operand), ms[j]? = some (some m) → xs[j]? = some x → TkOk X.P { s with L := L', H := eatsH s.σ s.H ss } (.res (i0 + j)) (valO s.σ x) (s.a.eval x) m) ∧
      Fr X s.L s.w L' s.w ∧ ∀ k j, s.L k = .res j → L' k = .res j
  | [], [], Γ, Γ', s, ss, i0, h, he, hv => by
    simp only [Den.eats, Option.some.injEq, Prod.mk.injEq] at he
    obtain ⟨rfl, rfl⟩ := he
    exact ⟨s.L, h, fun j m x hm => by simp at hm, Fr.refl _ _ _, fun _ _ h => h⟩
  | none :: ms, x :: xs, Γ, Γ', s, ss, i0, h, he, hv => by
    simp only [Den.eats] at he
    split at he
    · rename_i Γ2 ss2 he2
      simp only [Option.some.injEq, Prod.mk.injEq] at he
      obtain ⟨rfl, rfl⟩ := he
      obtain ⟨L', h1, h2, h3, h4⟩ := Sim.eats ms xs Γ Γ2 s ss2 (i0 + 1) h he2 (fun j m y hm hy => hv (j + 1) m y (by simpa using hm) (by simpa using hy))
      refine ⟨L', h1, fun j m y hm hy => ?_, h3, h4⟩
      cases j with
      | zero => simp at hm
      | succ j =>
        have := h2 j m y (by simpa using hm) (by simpa using hy)
        rw [show i0 + (j + 1) = i0 + 1 + j by omega]
        exact this
    · cases he
  | some m0 :: ms, x :: xs, Γ, Γ', s, ss, i0, h, he, hv => by
    simp only [Den.eats] at he
    split at he
    · rename_i Γ1 src he1
      split at he
      · rename_i Γ2 ss2 he2
        simp only [Option.some.injEq, Prod.mk.injEq] at he
        obtain ⟨rfl, rfl⟩ := he
        have hvx : valO s.σ x ≠ .undef := by
          rcases hv 0 (some m0) x rfl rfl with h0 | h0
          · cases h0
          · exact h0
        obtain ⟨L1, g1, g2, g3, g4⟩ := h.eat he1 hvx i0
        obtain ⟨L2, h1, h2, h3, h4⟩ := Sim.eats ms xs Γ1 Γ2 { s with L := L1, H := eatH s.σ s.H src } ss2 (i0 + 1) g1 he2 (fun j m y hm hy => hv (j + 1) m y (by simpa using hm) (by simpa using hy))
        refine ⟨L2, h1, fun j m y hm hy => ?_, g3.trans h3, fun k j hk => h4 k j (g4 k j hk)⟩
        cases j with
        | zero =>
          simp only [List.getElem?_cons_zero, Option.some.injEq] at hm hy
          subst hm; subst hy
          exact g2.after (H' := eatsH s.σ (eatH s.σ s.H src) ss2) g1.top h3 h4
        | succ j =>
          have := h2 j m y (by simpa using hm) (by simpa using hy)
          rw [show i0 + (j + 1) = i0 + 1 + j by omega]
          exact this
      · cases he
    · cases he
  | [], _ :: _, _, _, _, _, _, _, he, _ => by simp [Den.eats] at he
  | none :: _, [], _, _, _, _, _, _, he, _ => by simp [Den.eats] at he
  | some _ :: _, [], _, _, _, _, _, _, he, _ => by simp [Den.eats] at he

/-- A new row in a slot. -/
theorem Sim.newRow {X : Cx} {Γ : List G} {s : S} {d : Nat} {v : PV} {c : Value} {o : Obj} {L' : Nat → Lab} (h : Sim X Γ s) (hd : d < Γ.length)
    (hL : ∀ k, k < s.w.heap.size → (∀ j, s.L k ≠ .res j) → L' k = s.L k) (hnew : L' s.w.heap.size = .s d) (htop : ∀ k, s.w.heap.size < k → L' k = .no)
    (new : ∀ s' : S, s' = { s with L := L', w := s.w.alloc o } → R X.P s'.w .own (s'.fp (· = .s d)) v c) :
    Sim X (setG none false d .own Γ) (({ s with L := L', w := s.w.alloc o } : S).put d v c) ∧ Fr X s.L s.w L' (s.w.alloc o) := by
  have hlab : ∀ k, k < s.w.heap.size → (∀ j, s.L k ≠ .res j) → L' k = s.L k ∧ (s.w.alloc o).heap[k]? = s.w.heap[k]? := fun k hk hj => ⟨hL k hk hj, alloc_old _ _ hk⟩
  have hlt : ∀ k, s.L k ≠ .no → k < s.w.heap.size := fun k hk => by
    rcases Nat.lt_or_ge k s.w.heap.size with h1 | h1
    · exact h1
    · exact absurd (h.top k h1) hk
  have hnr : ∀ g i j, ¬ G.uses g i (.res j) := by intro g i j; cases g <;> simp [G.uses, Lab.isB]
  let s1 : S := { s with L := L', w := s.w.alloc o }
  have h1 : Sim X Γ s1 := by
    refine ⟨h.lenG, h.lenA, h.defs, fun i g hg => ?_, fun r b hb => ?_, fun k hk => htop k (by have := alloc_size s.w o; change (s.w.alloc o).heap.size ≤ k at hk; omega), h.n0⟩
    · exact (h.slot i g hg).out ⟨rfl, rfl, fun k hk => hlab k (hlt k (by intro hx; rw [hx] at hk; exact uses_no hk)) (fun j hj => by rw [hj] at hk; exact hnr g i j hk), fun _ _ => ⟨rfl, rfl⟩, fun _ r b hr => by
        obtain ⟨vals', e', g1, _⟩ := h.box r b hr
        exact ⟨b, hr, rfl, rfl, fun _ _ => ⟨rfl, alloc_old _ _ (Array.getElem?_eq_some_iff.1 g1).1⟩⟩⟩
    · obtain ⟨_, _, g1, g2, _⟩ := h.box r b hb
      refine BoxOk.step (h.box r b hb) (hlab _ (Array.getElem?_eq_some_iff.1 g1).1 (by rw [g2]; simp)) (fun k hk => hlab k (hlt k ?_) ?_) (H_lt hb) (Nat.le_refl _) (fun _ _ => rfl)
      · rcases hk with ⟨j, hk⟩ | hk | hk <;> rw [hk] <;> simp
      · rcases hk with ⟨j, hk⟩ | hk | hk <;> rw [hk] <;> simp
  refine ⟨h1.set hd (.inr (new s1 rfl)), Fr.alloc o fun k hk hl => hL k hk ?_⟩
  intro j hj; rw [hj] at hl; exact hl

/-! #### make -/
def zeroV (z : Value) : Option PV :=
  match z with
  | .agg cs => if (cs.toList.map ofValue).all (fun v => match v with | .undef => false | _ => true) then some (.agg (cs.toList.map ofValue)) else none
  | c => match ofValue c with
    | .undef => none
    | v => some v
def mksV (e by_ : Nat) (z : PV) (l c : PV) : Option PV :=
  match l, c with
  | .int _ n, .int _ m => if n = m ∧ 0 ≤ n ∧ (by_ : Int) * n ≤ 281474976710656 ∧ n ≤ 9223372036854775807 then some (.sl e (List.replicate n.toNat z)) else none
  | _, _ => none
def elabMks (E : Env) (Γ : List G) (d : Nat) (T : TypeId) (l c : Operand) : Option (COp × List G) :=
  match E.P.underlying T with
  | some (.slice e) => match E.P.info? e with
    | some i => match i.zero.bind zeroV with
      | some z => if kdO Γ l = .fl ∧ kdO Γ c = .fl ∧ 0 < i.size ∧ z.cells.length = i.size then some (.mks d e i.bytes z l c, setG none false d .own Γ) else none
      | none => none
    | none => none
  | _ => none

theorem ofValue_all {cs : List Value} (h : (cs.map ofValue).all (fun v => match v with | .undef => false | _ => true) = true) : ∀ c ∈ cs, (ofValue c).flat = some c := by
  intro c hc
  simp only [List.all_eq_true, List.mem_map] at h
  have := h _ ⟨c, hc, rfl⟩
  rcases ofValue_flat c with h1 | h1
  · rw [h1] at this; cases this
  · exact h1

theorem zeroV_cells {z : Value} {v : PV} (h : zeroV z = some v) : z.cells.size = v.cells.length ∧ ∀ (j : Nat), j < v.cells.length → (v.cells.getD j .undef).flat = some (z.cells.getD j Go.undef) := by
  unfold zeroV at h
  split at h
  · rename_i cs
    split at h
    · rename_i hall
      injection h with h
      subst h
      have hf := ofValue_all hall
      refine ⟨by simp [PV.cells, Value.cells], fun j hj => ?_⟩
      have hj' : j < cs.size := by simpa [PV.cells] using hj
      have := hf cs[j] (by simp)
      simpa [PV.cells, Value.cells, List.getD_eq_getElem?_getD, Array.getD, hj'] using this
    · cases h
  · rename_i c hc
    have one : ∀ c : Value, (∀ cs, c ≠ .agg cs) → c.cells = #[c] := by intro c hc; cases c <;> first | rfl | exact absurd rfl (hc _)
    have h1 := one z (fun cs hx => hc cs hx)
    split at h
    · cases h
    · rename_i hnu
      injection h with h
      subst h
      rcases ofValue_flat z with h2 | h2
      · exact absurd h2 hnu
      · have h3 : (ofValue z).cells = [ofValue z] := by generalize ofValue z = u at h2; cases u <;> simp [PV.flat] at h2 <;> rfl
        rw [h1, h3]
        refine ⟨rfl, fun j hj => ?_⟩
        obtain rfl : j = 0 := by simpa using hj
        exact h2

theorem flatten_replicate (z : PV) (m : Nat) (hz : z.cells.length = m) (hm : 0 < m) : ∀ (n q : Nat), q < n * m → (flatten (List.replicate n z)).getD q .undef = z.cells.getD (q % m) .undef
  | 0, q, hq => by simp at hq
  | n + 1, q, hq => by
    rw [List.replicate_succ, flatten, List.flatMap_cons, List.getD_eq_getElem?_getD]
    by_cases h : q < m
    · rw [List.getElem?_append_left (by omega), Nat.mod_eq_of_lt h, List.getD_eq_getElem?_getD]
    · rw [List.getElem?_append_right (by omega), hz]
      have hq' : q - m < n * m := by rw [Nat.add_mul, Nat.one_mul] at hq; omega
      have := flatten_replicate z m hz hm n (q - m) hq'
      rw [List.getD_eq_getElem?_getD] at this
      have e : q % m = (q - m) % m := Nat.mod_eq_sub_mod (by omega)
      rw [e]
      exact this

section
variable {X : Cx} {Γ : List G} {s : S} {L0 : Nat → Lab} {w0 : World} {K : KV} {o : Oper} {Q : Exit → Act → World → Prop} {d : Nat}

theorem mks_sound {E : Env} {T : TypeId} {l c : Operand} {cop : COp} {Γ' : List G} (hE : E.P = X.P) (he : elabMks E Γ d T l c = some (cop, Γ')) (h : Sim X Γ s) (f : Fr X L0 w0 s.L s.w) (hd : d < Γ.length) (ho : o.dst = some d) (hop : o.op = .makeSlice T l c)
    (hk : ∃ e by_ z, cop = .mks d e by_ z l c ∧ optK (mksV e by_ z (valO s.σ l) (valO s.σ c)) fun v => K (s.σ.set d v) s.H) : o.wp X.P s.a s.w (Good X Γ' L0 w0 K) Q := by
  obtain ⟨e, by_, z, rfl, hk0⟩ := hk
  obtain ⟨v, hv, hk⟩ := hk0.get
  clear hk0
  unfold elabMks at he
  rw [hE] at he
  split at he
  · rename_i e' hT
    split at he
    · rename_i i hi
      split at he
      · rename_i z' hz
        split at he
        · rename_i hc
          simp only [Option.some.injEq, Prod.mk.injEq, COp.mks.injEq] at he
          obtain ⟨⟨_, rfl, rfl, rfl, _, _⟩, rfl⟩ := he
          obtain ⟨hl, hc2, hpos, hzl⟩ := hc
          obtain ⟨z0, hz0, hzv⟩ := Option.bind_eq_some_iff.1 hz
          unfold mksV at hv
          split at hv
          · rename_i k1 n k2 m e1 e2
            split at hv
            · rename_i hcond
              obtain ⟨rfl, hn0, hnb, hnm⟩ := hcond
              injection hv with hv
              subst hv
              have h1 := (fl_of h hl e1 (by simp)).int_inv
              have h2 := (fl_of h hc2 e2 (by simp)).int_inv
              have hce : X.P.cellsOf e' = i.size := by unfold Program.cellsOf; rw [hi]; rfl
              have hrun : (execOp s.a.eval o).run X.P s.w = .ok (.value (.slice (some ⟨s.w.heap.size, 0, none⟩) n.toNat n.toNat)) (s.w.alloc (.cells (madeCells z0.cells (n.toNat * i.size)) e')) := by
                unfold execOp
                simp only [hop, h1, h2]
                have := run_make (P := X.P) s.w T e' i z0 hT hi hz0 k1 k2 n n hn0 (Int.le_refl _) hnb hnm
                simp [this]
              let L' : Nat → Lab := fun k => if k = s.w.heap.size then .s d else s.L k
              obtain ⟨hs1, hf1⟩ := h.newRow (L' := L') (v := .sl e' (List.replicate n.toNat z')) (c := .slice (some ⟨s.w.heap.size, 0, none⟩) n.toNat n.toNat) (o := .cells (madeCells z0.cells (n.toNat * i.size)) e') hd
                (fun k hk _ => if_neg (by omega)) (if_pos rfl) (fun k hk => by show (if k = s.w.heap.size then Lab.s d else s.L k) = .no; rw [if_neg (by omega)]; exact h.top k (by omega))
                (by
                  rintro s' rfl
                  have hlen : (List.replicate n.toNat z').length = n.toNat := by simp
                  obtain ⟨hz1, hz2⟩ := zeroV_cells hzv
                  have hsz : ∀ x ∈ List.replicate n.toNat z', x.cells.length = X.P.cellsOf e' := fun x hx => by rw [(List.mem_replicate.1 hx).2, hce, hzl]
                  have := R.own_mk (P := X.P) (w := s.w.alloc (.cells (madeCells z0.cells (n.toNat * i.size)) e')) (fp := (S.fp { s with L := L', w := s.w.alloc (.cells (madeCells z0.cells (n.toNat * i.size)) e') } (· = .s d))) (e := e') (xs := List.replicate n.toNat z') (g := s.w.heap.size) (cap := n.toNat) (cur := madeCells z0.cells (n.toNat * i.size)) (fun _ => 0)
                    (heap_alloc_new s.w _) (by simp) (by simp only [maxLen]; omega) (by rw [size_madeCells, hce]) (show L' s.w.heap.size = .s d from if_pos rfl) hsz (by omega) (fun q hq => by
                      rw [flatten_len hsz, hlen, hce] at hq
                      rw [flatten_replicate z' i.size hzl hpos n.toNat q hq]
                      have hm : q % i.size < z'.cells.length := by rw [hzl]; exact Nat.mod_lt _ hpos
                      have := hz2 (q % i.size) hm
                      have e3 : (madeCells z0.cells (n.toNat * i.size)).getD q undef = z0.cells.getD (q % i.size) undef := by
                        have hzs : z0.cells.size = i.size := by rw [hz1, hzl]
                        simp [madeCells, Array.getD, hq, hzs, Nat.mod_lt _ hpos]
                      rw [e3]
                      exact .flat this)
                  rw [hlen] at this
                  exact this)
              refine op_value hrun ?_
              rw [ho]
              exact ⟨_, rfl, rfl, hs1, f.trans hf1, hk⟩
            · cases hv
          · cases hv
        · cases he
      · cases he
    · cases he
  · cases he

/-! #### functions made -/
def isRefs (vs : List PV) : Bool := vs.all fun v => match v with | .ref _ _ => true | _ => false
def elabMkfn (Γ : List G) (d : Nat) (fn : Fn) (first caps : Array Operand) : Option (COp × List G) :=
  match fn, first.toList with
  | .func g, [] => if (caps.toList.all fun x => match kdO Γ x with | .ptr _ _ => true | _ => false) then some (.mkfn d g caps.toList, setG none false d .fn Γ) else none
  | _, _ => none

theorem mkfn_sound {fn : Fn} {first caps : Array Operand} {cop : COp} {Γ' : List G} (he : elabMkfn Γ d fn first caps = some (cop, Γ')) (h : Sim X Γ s) (f : Fr X L0 w0 s.L s.w) (hd : d < Γ.length) (ho : o.dst = some d) (hop : o.op = .makeFunc fn first caps)
    (hk : ∃ g xs, cop = .mkfn d g xs ∧ isRefs (xs.map (valO s.σ)) = true ∧ K (s.σ.set d (.fn g (xs.map (valO s.σ)))) s.H) : o.wp X.P s.a s.w (Good X Γ' L0 w0 K) Q := by
  obtain ⟨g, xs, rfl, href, hk⟩ := hk
  unfold elabMkfn at he
  split at he
  · rename_i g' hfirst
    split at he
    · rename_i hall
      simp only [Option.some.injEq, Prod.mk.injEq, COp.mkfn.injEq] at he
      obtain ⟨⟨_, rfl, rfl⟩, rfl⟩ := he
      have hf0 : first = #[] := by rw [← Array.toList_eq_nil_iff]; exact hfirst
      subst hf0
      refine good_set h f hd ho (c := .func (.func g') #[] (caps.map s.a.eval)) ?_ (.inr (.inr ⟨g', _, _, rfl, rfl, by simp, fun i hi => ?_⟩)) hk
      · unfold execOp
        simp [hop, Instr.makeFunc]
      · have hi' : i < caps.size := by simpa using hi
        have hx : caps.toList.map (valO s.σ) = caps.toList.map (valO s.σ) := rfl
        have e1 : (caps.toList.map (valO s.σ)).getD i .undef = valO s.σ caps[i] := by simp [List.getD_eq_getElem?_getD, hi']
        have e2 : (caps.map s.a.eval).getD i undef = s.a.eval caps[i] := by simp [Array.getD, hi']
        rw [e1, e2]
        simp only [List.all_eq_true] at hall
        have hk' := hall caps[i] (by simp)
        have hv : valO s.σ caps[i] ≠ .undef := by
          simp only [isRefs, List.all_eq_true] at href
          have := href (valO s.σ caps[i]) (List.mem_map.2 ⟨caps[i], by simp, rfl⟩)
          intro hx; rw [hx] at this; cases this
        split at hk'
        · rename_i ck m hkd
          obtain ⟨r, j, b, h1, h2, h3, _⟩ := h.opnd' hkd hv
          exact ⟨r, j, h1, H_lt h3, h2⟩
        · cases hk'
    · cases he
  · cases he
end
end Go.Den
set_option autoImplicit false
namespace Go.Den

/-! #### slice literals -/
def litN (E : Env) (T : TypeId) : Option (TypeId × Nat) :=
  match E.P.underlying T with
  | some (.slice e) => match E.P.info? e with
    | some i => if i.zero.isSome = true ∧ 0 < i.size then some (e, i.size) else none
    | none => none
  | _ => none
def elabLit (E : Env) (Γ : List G) (d : Nat) (T : TypeId) (len : Nat) (parts : List (Nat × Operand)) : Option (COp × List G) :=
  match litN E T with
  | some (e, n) =>
    if parts.map (·.1) = List.range len ∧ len * n ≤ 16777216 then
      match eats (parts.map fun _ => some .own) (parts.map (·.2)) Γ with
      | some (Γ1, ss) => some (.lit d e n (parts.map (·.2)) ss, setG none false d .own Γ1)
      | none => none
    else none
  | none => none
def litOk (n : Nat) (vs : List PV) : Bool := vs.all fun v => decide (v.cells.length = n) && !v.isUndef

theorem parts_eq {α : Type} : ∀ (ps : List (Nat × α)) (i : Nat), ps.map (·.1) = List.range' i ps.length → ps = ((ps.map (·.2)).zipIdx i).map fun x => (x.2, x.1)
  | [], _, _ => rfl
  | (k, x) :: ps, i, h => by
    simp only [List.map_cons, List.length_cons, List.range'_succ, List.cons.injEq] at h
    obtain ⟨rfl, h⟩ := h
    simp only [List.map_cons, List.zipIdx_cons]
    rw [← parts_eq ps (k + 1) h]

section
variable {X : Cx} {Γ : List G} {s : S} {L0 : Nat → Lab} {w0 : World} {K : KV} {o : Oper} {Q : Exit → Act → World → Prop} {d : Nat}

theorem lit_sound {E : Env} {T : TypeId} {len : Nat} {parts : Array (Nat × Operand)} {cop : COp} {Γ' : List G} (hE : E.P = X.P) (he : elabLit E Γ d T len parts.toList = some (cop, Γ')) (h : Sim X Γ s) (f : Fr X L0 w0 s.L s.w) (hd : d < Γ.length) (ho : o.dst = some d) (hop : o.op = .buildSlice T len parts)
    (hk : ∃ e n xs ss, cop = .lit d e n xs ss ∧ litOk n (xs.map (valO s.σ)) = true ∧ K (s.σ.set d (.sl e (xs.map (valO s.σ)))) (eatsH s.σ s.H ss)) : o.wp X.P s.a s.w (Good X Γ' L0 w0 K) Q := by
  obtain ⟨e, n, xs, ss, rfl, hok, hk⟩ := hk
  unfold elabLit at he
  split at he
  · rename_i e' n' hlit
    split at he
    · rename_i hc
      split at he
      · rename_i Γ1 ss' hea
        simp only [Option.some.injEq, Prod.mk.injEq, COp.lit.injEq] at he
        obtain ⟨⟨_, rfl, rfl, rfl, rfl⟩, rfl⟩ := he
        obtain ⟨hpi, hsmall⟩ := hc
        unfold litN at hlit
        rw [hE] at hlit
        split at hlit
        · rename_i e2 hT
          split at hlit
          · rename_i i hi
            split at hlit
            · rename_i hzp
              simp only [Option.some.injEq, Prod.mk.injEq] at hlit
              obtain ⟨rfl, rfl⟩ := hlit
              obtain ⟨hz, hpos⟩ := hzp
              obtain ⟨z, hz⟩ := Option.isSome_iff_exists.1 hz
              let ys := parts.toList.map (·.2)
              have hys : ys.length = len := by
                have := congrArg List.length hpi
                simpa [ys] using this
              have hok' : ∀ y ∈ ys, (valO s.σ y).cells.length = i.size ∧ valO s.σ y ≠ .undef := by
                intro y hy
                simp only [litOk, List.all_eq_true, List.mem_map] at hok
                have := hok (valO s.σ y) ⟨y, by simpa [ys] using hy, rfl⟩
                simp only [Bool.and_eq_true, decide_eq_true_eq, Bool.not_eq_true'] at this
                exact ⟨this.1, fun hx => by have h2 := this.2; rw [hx] at h2; cases h2⟩
              obtain ⟨L1, hs1, hh, hf1, hres⟩ := Sim.eats _ _ Γ Γ1 s ss' 0 h hea (fun j m x hm hx => .inr (hok' x (List.mem_of_getElem? hx)).2)
              have hmg : ∀ j, j < ys.length → (parts.toList.map fun _ => some TK.own)[j]? = some (some .own) := fun j hj => by
                have : j < parts.toList.length := by simpa [ys] using hj
                rw [List.getElem?_map, List.getElem?_eq_getElem this]; rfl
              have hand : ∀ j, ∃ lab : Nat → Nat, j < ys.length → (s.a.eval (ys.getD j (.tmp 0))).cells.size = i.size ∧ ∀ q, q < i.size → R X.P s.w .own (part .own (fun k => L1 k = .res j) lab none q) ((valO s.σ (ys.getD j (.tmp 0))).cells.getD q .undef) ((s.a.eval (ys.getD j (.tmp 0))).cells.getD q undef) := fun j => by
                by_cases hj : j < ys.length
                · have hy : ys[j]? = some ys[j] := List.getElem?_eq_getElem hj
                  have e1 : ys.getD j (.tmp 0) = ys[j] := by rw [List.getD_eq_getElem?_getD, hy]; rfl
                  have ht := hh j .own ys[j] (hmg j hj) hy
                  obtain ⟨hcl, hnu⟩ := hok' _ (List.getElem_mem hj)
                  obtain ⟨lab, g1, g2⟩ := R.cells ht hnu
                  rw [e1]
                  refine ⟨lab, fun _ => ⟨by rw [g1, hcl], fun q hq => ?_⟩⟩
                  have := g2 q (by rw [hcl]; exact hq)
                  rwa [Nat.zero_add] at this
                · exact ⟨fun _ => 0, fun hx => absurd hx hj⟩
              obtain ⟨lb, hlb⟩ := Classical.skolem.1 hand
              -- the machine
              let vs := ys.map s.a.eval
              have hvs : ∀ v ∈ vs, v.cells.size = i.size := by
                intro v hv
                obtain ⟨y, hy, rfl⟩ := List.mem_map.1 hv
                obtain ⟨j, hj, rfl⟩ := List.getElem_of_mem hy
                have := (hlb j hj).1
                rwa [List.getD_eq_getElem?_getD, List.getElem?_eq_getElem hj] at this
              let cells0 : Array Value := (Array.range (len * i.size)).map ((if len * i.size = 0 then #[] else z.cells)[· % (if len * i.size = 0 then #[] else z.cells).size]!)
              obtain ⟨r, hr1, hr2, hr3⟩ := Great.fill_dense hpos vs 0 cells0 hvs (by simp [cells0, vs, hys])
              have hrsz : r.size = len * i.size := by rw [hr2]; simp [cells0]
              have hparts : (parts.map fun (j, x) => (j, s.a.eval x)).toList = (vs.zipIdx 0).map fun x => (x.2, x.1) := by
                have := parts_eq parts.toList 0 (by rw [hpi, List.range_eq_range']; congr 1; simpa [ys] using hys.symm)
                have h2 : parts.toList = (ys.zipIdx 0).map fun x => (x.2, x.1) := this
                rw [Array.toList_map, h2]
                simp only [vs, List.map_map, List.zipIdx_map]
                apply List.map_congr_left
                intro x _; rfl
              have hrun : (execOp s.a.eval o).run X.P s.w = .ok (.value (.slice (some ⟨s.w.heap.size, 0, none⟩) len len)) (s.w.alloc (.cells r e2)) := by
                unfold execOp
                simp only [hop]
                have : (Instr.buildSlice T len (parts.map fun (j, x) => (j, s.a.eval x))).run X.P s.w = .ok (.slice (some ⟨s.w.heap.size, 0, none⟩) len len) (s.w.alloc (.cells r e2)) := by
                  unfold Instr.buildSlice
                  rw [hparts]
                  have hns : ¬ (len * i.size > 2 ^ 24) := by omega
                  by_cases h0 : len * i.size = 0
                  · simp only [cells0, h0] at hr1
                    simp [run_underlying hT, sizeOf, typeInfo, hi, h0]
                    simp at hr1
                    simp [hr1, newRow]
                  · simp only [cells0, h0, if_false] at hr1
                    simp [run_underlying hT, sizeOf, typeInfo, zeroValue, hi, hz, hns, h0]
                    simp [hr1, newRow]
                simp only [Sem.run_bind, this, Result.andThen_ok]
                rfl
              let L' : Nat → Lab := fun k => if k = s.w.heap.size then .s d else match L1 k with | .res _ => .s d | l => l
              have hL'r : ∀ k j, k ≠ s.w.heap.size → L1 k = .res j → L' k = .s d := fun k j hk hj => by simp only [L']; rw [if_neg hk, hj]
              have hd1 : d < Γ1.length := by rw [hs1.lenG, ← h.lenG]; exact hd
              obtain ⟨hs2, hf2⟩ := hs1.newRow (L' := L') (v := .sl e2 (ys.map (valO s.σ))) (c := .slice (some ⟨s.w.heap.size, 0, none⟩) len len) (o := .cells r e2) hd1
                (fun k hk hj => by
                  change ∀ j, L1 k ≠ .res j at hj
                  change k < s.w.heap.size at hk
                  show L' k = L1 k
                  have hne : k ≠ s.w.heap.size := by omega
                  cases hl : L1 k <;> simp only [L', if_neg hne, hl] <;> exact absurd hl (hj _)) (if_pos rfl) (fun k hk => by
                  change s.w.heap.size < k at hk
                  simp only [L']; rw [if_neg (by omega), show L1 k = .no from hs1.top k (by show s.w.heap.size ≤ k; omega)])
                (by
                  rintro s' rfl
                  have hlen : (ys.map (valO s.σ)).length = len := by simp [hys]
                  have hce : X.P.cellsOf e2 = i.size := by unfold Program.cellsOf; rw [hi]; rfl
                  have hsz : ∀ x ∈ ys.map (valO s.σ), x.cells.length = X.P.cellsOf e2 := fun x hx => by
                    obtain ⟨y, hy, rfl⟩ := List.mem_map.1 hx
                    rw [hce]; exact (hok' y hy).1
                  have hold : ∀ k, k < s.w.heap.size → (s.w.alloc (.cells r e2)).heap[k]? = s.w.heap[k]? := fun k hk => alloc_old _ _ hk
                  have hlt : ∀ k j, L1 k = .res j → k < s.w.heap.size := fun k j hk => by
                    rcases Nat.lt_or_ge k s.w.heap.size with h1 | h1
                    · exact h1
                    · have := hs1.top k h1; change L1 k = .no at this; rw [this] at hk; cases hk
                  have := R.own_mk (P := X.P) (w := s.w.alloc (.cells r e2)) (fp := (S.fp { s with L := L', H := eatsH s.σ s.H ss', w := s.w.alloc (.cells r e2) } (· = .s d))) (e := e2) (xs := ys.map (valO s.σ)) (g := s.w.heap.size) (cap := len) (cur := r)
                    (fun k => match L1 k with | .res j => j * i.size + lb j k | _ => 0)
                    (heap_alloc_new s.w _) (by rw [hlen]; exact Nat.le_refl _) (by have : len ≤ len * i.size := Nat.le_mul_of_pos_right _ hpos; simp only [maxLen]; omega) (by rw [hrsz, hce]) (show L' s.w.heap.size = .s d from if_pos rfl) hsz (by omega) (fun q hq => by
                      rw [flatten_len hsz, hlen, hce] at hq
                      have hj : q / i.size < ys.length := by rw [hys]; exact (Nat.div_lt_iff_lt_mul hpos).2 hq
                      have hm : q % i.size < i.size := Nat.mod_lt _ hpos
                      have hqe : q / i.size * i.size + q % i.size = q := by rw [Nat.mul_comm]; exact Nat.div_add_mod _ _
                      obtain ⟨hb1, hb2⟩ := hlb (q / i.size) hj
                      have hb3 := hb2 (q % i.size) hm
                      have hy : ys[q / i.size]? = some ys[q / i.size] := List.getElem?_eq_getElem hj
                      have e1 : ys.getD (q / i.size) (.tmp 0) = ys[q / i.size] := by rw [List.getD_eq_getElem?_getD, hy]; rfl
                      rw [e1] at hb3 hb1
                      have e2 : (flatten (ys.map (valO s.σ))).getD q .undef = (valO s.σ ys[q / i.size]).cells.getD (q % i.size) .undef := by
                        have := flatten_get (n := i.size) (fun x hx => by rw [hsz x hx, hce]) (i := q / i.size) (j := q % i.size) (x := valO s.σ ys[q / i.size]) (xs := ys.map (valO s.σ)) (by simp [hj]) hm
                        rwa [hqe] at this
                      have e3 : r.getD q undef = (s.a.eval ys[q / i.size]).cells.getD (q % i.size) undef := by
                        have h3 := hr3 q
                        rw [if_pos ⟨by omega, by simp only [vs, List.length_map, hys, Nat.zero_add]; exact hq⟩] at h3
                        simp only [Nat.sub_zero, vs, List.getElem?_map, hy, Option.map_some, Option.bind_some] at h3
                        rw [Array.getD_eq_getD_getElem?, h3, Array.getD_eq_getD_getElem?]
                      rw [e2, e3]
                      refine (R.frame hb3 fun k hk => hold k (hlt k _ hk.1)).mono fun k hk => ?_
                      have hk1 : L1 k = .res (q / i.size) := hk.1
                      have hkl := hlt k _ hk1
                      refine ⟨show L' k = .s d from hL'r k _ (by omega) hk1, by simp; omega, ?_⟩
                      simp only [hk1]
                      have : lb (q / i.size) k = q % i.size := hk.2.2
                      rw [this]; exact hqe)
                  rw [hlen] at this
                  exact this)
              refine op_value hrun ?_
              rw [ho]
              exact ⟨_, rfl, rfl, hs2, (f.trans hf1).trans hf2, hk⟩
            · cases hlit
          · cases hlit
        · cases hlit
      · cases he
    · cases he
  · cases he
end
end Go.Den
set_option autoImplicit false
namespace Go.Den

/-! ### Calls -/
def PK.toG : PK → G
  | .fl => .fl | .rd => .sh | .own => .own | .fz => .fz | .ptr ck => .ptr ck false | .fn => .fn
def PK.eat : PK → Option TK
  | .own => some .own | .fz => some .fz | _ => none
def TK.toG : TK → G
  | .fl => .fl | .own => .own | .sh => .sh | .fz => .fz
def packV (cs : Array Value) : Value := if h : cs.size = 1 then cs[0] else .tuple cs
def packP : List PV → PV
  | [v] => v
  | vs => .tup vs
def setD (σ : List PV) (d : Option Nat) (v : PV) : List PV := match d with | some d => σ.set d v | none => σ

abbrev Tr := Nat → List PV → Boxes → KV → Prop

/-- What a call of g does, whoever calls. -/
def Spec (P : Program) (g : Nat) (sg : Sig) (T : Tr) : Prop :=
  (∃ fn, P.funcs[g]? = some fn ∧ (fn.name == "runtime.NumGoroutine") = false ∧ fn.body.isNone = false) ∧
  ∀ (X : Cx) (s : S) (K : KV), X.P = P → Sim X (sg.ps.map PK.toG) s → X.n0 = s.H.length → (sg.pure = true → X.lim = X.n0) → T X.lim s.σ s.H K →
    Calls P g s.a.tmps s.w fun e w' => ∃ s' : S, e = .returned (packV s'.a.tmps) ∧ s'.w = w' ∧ Sim X (sg.rs.map TK.toG) s' ∧ Fr X s.L s.w s'.L s'.w ∧ ∃ H', (sg.pure = true ∨ H' = s'.H) ∧ K s'.σ H'

def viewV (lim r : Nat) (ck : CK) : CK := if r < lim ∧ ck ≠ .fn then .sh else ck
def keepB (lim r : Nat) (ck : CK) : Bool := match viewV lim r ck with | .sh | .fn => true | _ => false
def mergeH (lim : Nat) (H H' : Boxes) : Boxes := H.mapIdx fun r b => if keepB lim r b.1 then b else (b.1, (H'.getD r b).2)
def argV (lim : Nat) (H : Boxes) : PK → PV → Prop
  | .ptr ck, .ref r _ => match H[r]? with
    | some b => viewV lim r b.1 = ck
    | none => False
  | .ptr _, _ => False
  | .own, v | .fz, v | .fn, v => v ≠ .undef
  | _, _ => True
def argsV (lim : Nat) (H : Boxes) : List PK → List PV → Prop
  | p :: ps, v :: vs => argV lim H p v ∧ argsV lim H ps vs
  | _, _ => True
def limV (pure : Bool) (lim : Nat) (H : Boxes) : Nat := if pure then H.length else lim
/-- The value-level call. -/
def callV (T : Tr) (lim : Nat) (sg : Sig) (d : Option Nat) (vs : List PV) (σ : List PV) (H1 : Boxes) (K : KV) : Prop :=
  argsV (limV sg.pure lim H1) H1 sg.ps vs ∧ T (limV sg.pure lim H1) vs H1 fun rs H' => K (setD σ d (packP rs)) (if sg.pure then H1 else mergeH lim H1 H')

theorem argsV_get {lim : Nat} {H : Boxes} : ∀ {ps : List PK} {vs : List PV} {i : Nat} {p : PK} {v : PV}, argsV lim H ps vs → ps[i]? = some p → vs[i]? = some v → argV lim H p v
  | [], _, _, _, _, _, hp, _ => by simp at hp
  | _ :: _, [], _, _, _, _, _, hv => by simp at hv
  | p0 :: ps, v0 :: vs, 0, p, v, h, hp, hv => by
    simp only [List.getElem?_cons_zero, Option.some.injEq] at hp hv
    subst hp; subst hv; exact h.1
  | p0 :: ps, v0 :: vs, i + 1, p, v, h, hp, hv => argsV_get h.2 (by simpa using hp) (by simpa using hv)

/-- A caller's label, as the called one sees it. -/
def trans (pure : Bool) (lim n : Nat) : Lab → Lab
  | .no => .no
  | .sh | .s _ | .t _ _ => .sh
  | .nw => if pure then .sh else .nw
  | .res j => if j < n then .s j else .sh
  | .b r j => if pure = true ∨ r < lim then .sh else .b r j
  | .bk r => .bk r
/-- And back. -/
def back (tl : Nat → Lab) (n : Nat) : Lab → Lab
  | .s j => tl j
  | .nw => .nw
  | .b r j => if r < n then .b r j else .no
  | .bk r => if r < n then .bk r else .no
  | _ => .no

def ArgFact (X : Cx) (s : S) (pure : Bool) (limc n : Nat) (i : Nat) (v : PV) (c : Value) : PK → Prop
  | .fl => v = .undef ∨ R X.P s.w .rep (fun _ => False) v c
  | .rd => v = .undef ∨ R X.P s.w .rep (s.fp fun l => trans pure X.lim n l = .sh) v c
  | .own => R X.P s.w .own (s.fp (· = .res i)) v c
  | .fz => pure = false ∧ R X.P s.w .full (s.fp (· = .nw)) v c
  | .ptr ck => ∃ r j b, v = .ref r j ∧ c = .pointer (some ⟨s.bm r, j, none⟩) ∧ s.H[r]? = some b ∧ viewV limc r b.1 = ck
  | .fn => FnOk s.bm s.H.length v c

section
variable {X : Cx} {Γ : List G} {s : S} {sg : Sig} {vs : List PV} {cs : List Value}

def entry (X : Cx) (s : S) (pure : Bool) (vs : List PV) (cs : List Value) : S :=
  { σ := vs, H := s.H, L := fun k => trans pure X.lim vs.length (s.L k), bm := s.bm, a := ⟨cs.toArray, []⟩, w := s.w }
def entryX (X : Cx) (s : S) (pure : Bool) : Cx := { P := X.P, b0 := s.H.mapIdx fun r b => (b.1, s.bm r), lim := limV pure X.lim s.H }

theorem entryX_n0 {pure : Bool} : (entryX X s pure).n0 = s.H.length := by simp [entryX, Cx.n0]
theorem entryX_b0 {pure : Bool} {r : Nat} {b : CK × List PV} (hb : s.H[r]? = some b) : (entryX X s pure).b0[r]? = some (b.1, s.bm r) := by simp [entryX, hb]
theorem entryX_b0' {pure : Bool} {r : Nat} {p : CK × Nat} (hb : (entryX X s pure).b0[r]? = some p) : ∃ b, s.H[r]? = some b ∧ p = (b.1, s.bm r) := by
  simp only [entryX, List.getElem?_mapIdx, Option.map_eq_some_iff] at hb
  obtain ⟨b, h1, h2⟩ := hb
  exact ⟨b, h1, h2.symm⟩

theorem lim_le {pure : Bool} (h : Sim X Γ s) : X.lim ≤ limV pure X.lim s.H := by
  unfold limV
  split
  · exact Nat.le_trans h.n0.1 h.n0.len
  · exact Nat.le_refl _

theorem view_eq {lim : Nat} (hl : X.lim = lim) (r : Nat) (ck : CK) : X.view r ck = viewV lim r ck := by unfold Cx.view viewV; rw [hl]

theorem Sim.entry (h : Sim X Γ s) (hl : sg.ps.length = vs.length) (hc : cs.length = vs.length)
    (hargs : ∀ (i : Nat) (p : PK) (v : PV) (c : Value), sg.ps[i]? = some p → vs[i]? = some v → cs[i]? = some c → ArgFact X s sg.pure (limV sg.pure X.lim s.H) vs.length i v c p) :
    Sim (entryX X s sg.pure) (sg.ps.map PK.toG) (Den.entry X s sg.pure vs cs) := by
  have hlt : ∀ k, s.L k ≠ .no → k < s.w.heap.size := fun k hk => by
    rcases Nat.lt_or_ge k s.w.heap.size with h1 | h1
    · exact h1
    · exact absurd (h.top k h1) hk
  refine ⟨by simp [Den.entry, hl], by simp [Den.entry, hc], rfl, fun i g hg => ?_, fun r b hb => ?_, fun k hk => ?_, ⟨?_, fun r p hp => ?_⟩⟩
  · simp only [List.getElem?_map, Option.map_eq_some_iff] at hg
    obtain ⟨p, hp, rfl⟩ := hg
    have hi : i < vs.length := by rw [← hl]; exact (List.getElem?_eq_some_iff.1 hp).1
    have hi2 : i < cs.length := by omega
    have ha := hargs i p vs[i] cs[i] hp (List.getElem?_eq_getElem hi) (List.getElem?_eq_getElem hi2)
    have e1 : (Den.entry X s sg.pure vs cs).v i = vs[i] := by simp [Den.entry, S.v, hi]
    have e2 : (Den.entry X s sg.pure vs cs).c i = cs[i] := by simp [Den.entry, S.c, Array.getD, hi2]
    unfold SlotOk
    rw [e1, e2]
    cases p with
    | fl => exact ha
    | rd => exact ha.imp id fun ha => R.mono ha fun k hk => hk
    | own =>
      refine .inr (R.mono ha fun k hk => ?_)
      show trans sg.pure X.lim vs.length (s.L k) = .s i
      rw [show s.L k = .res i from hk]; exact if_pos hi
    | fz =>
      refine .inr (R.mono ha.2 fun k hk => ?_)
      show trans sg.pure X.lim vs.length (s.L k) = .nw
      rw [show s.L k = .nw from hk, ha.1]; rfl
    | ptr ck =>
      obtain ⟨r, j, b, h1, h2, h3, h4⟩ := ha
      exact .inr ⟨r, j, b, h1, h2, h3, by rw [view_eq rfl]; exact h4, by simp⟩
    | fn => exact .inr ha
  · obtain ⟨vals, e, g1, g2, g3, g4⟩ := h.box r b hb
    refine ⟨vals, e, g1, ?_, g3, fun j hj => ?_⟩
    · show trans sg.pure X.lim vs.length (s.L (s.bm r)) = .bk r
      rw [g2]; rfl
    · have hc := g4 j hj
      have hr : r < s.H.length := H_lt hb
      have hle := lim_le (pure := sg.pure) h
      -- the views
      rw [view_eq rfl]
      change CellOk X s r j _ _ (viewV X.lim r b.1) at hc
      show CellOk _ _ r j _ _ (viewV (limV sg.pure X.lim s.H) r b.1)
      have fnc : b.1 = .fn → viewV X.lim r b.1 = .fn ∧ viewV (limV sg.pure X.lim s.H) r b.1 = .fn := fun hb => by rw [hb]; simp [viewV]
      by_cases hfn : b.1 = .fn
      · rw [(fnc hfn).1] at hc; rw [(fnc hfn).2]; exact hc
      by_cases h1 : r < X.lim
      · have e1 : viewV X.lim r b.1 = .sh := if_pos ⟨h1, hfn⟩
        have e2 : viewV (limV sg.pure X.lim s.H) r b.1 = .sh := if_pos ⟨by omega, hfn⟩
        rw [e1] at hc; rw [e2]
        exact R.mono hc fun k hk => by show trans sg.pure X.lim vs.length (s.L k) = .sh; rw [show s.L k = .sh from hk]; rfl
      have e1 : viewV X.lim r b.1 = b.1 := if_neg (by simp [h1])
      rw [e1] at hc
      by_cases hp : sg.pure = true
      · have e2 : viewV (limV sg.pure X.lim s.H) r b.1 = .sh := if_pos ⟨by simp [limV, hp, hr], hfn⟩
        rw [e2]
        cases hb1 : b.1 with
        | fn => exact absurd hb1 hfn
        | own => rw [hb1] at hc; exact (R.rep hc).mono fun k hk => by show trans sg.pure X.lim vs.length (s.L k) = .sh; rw [show s.L k = .b r j from hk, hp]; simp [trans]
        | sh => rw [hb1] at hc; exact R.mono hc fun k hk => by show trans sg.pure X.lim vs.length (s.L k) = .sh; rw [show s.L k = .sh from hk]; rfl
        | fz => rw [hb1] at hc; exact (R.rep hc).mono fun k hk => by show trans sg.pure X.lim vs.length (s.L k) = .sh; rw [show s.L k = .nw from hk, hp]; rfl
      · have hpf : sg.pure = false := by simpa using hp
        have e2 : viewV (limV sg.pure X.lim s.H) r b.1 = b.1 := if_neg (by simp [limV, hpf, h1])
        rw [e2]
        cases hb1 : b.1 with
        | fn => exact absurd hb1 hfn
        | own => rw [hb1] at hc; exact R.mono hc fun k hk => by show trans sg.pure X.lim vs.length (s.L k) = .b r j; rw [show s.L k = .b r j from hk, hpf]; simp [trans, h1]
        | sh => rw [hb1] at hc; exact R.mono hc fun k hk => by show trans sg.pure X.lim vs.length (s.L k) = .sh; rw [show s.L k = .sh from hk]; rfl
        | fz => rw [hb1] at hc; exact R.mono hc fun k hk => by show trans sg.pure X.lim vs.length (s.L k) = .nw; rw [show s.L k = .nw from hk, hpf]; rfl
  · show trans sg.pure X.lim vs.length (s.L k) = .no
    rw [h.top k hk]; rfl
  · rw [entryX_n0]
    show limV sg.pure X.lim s.H ≤ s.H.length
    unfold limV; split
    · exact Nat.le_refl _
    · exact Nat.le_trans h.n0.1 h.n0.len
  · obtain ⟨b, h1, rfl⟩ := entryX_b0' hp
    exact ⟨b, h1, rfl, rfl⟩

/-- The caller's state behind the call. -/
noncomputable def exit' (X : Cx) (s s' : S) (pure : Bool) (n : Nat) (tl : Nat → Lab) : S :=
  { σ := s.σ, H := if pure then s.H else mergeH X.lim s.H s'.H, bm := s.bm, a := s.a, w := s'.w,
    L := fun k => open Classical in if k < s.w.heap.size ∧ keeps (entryX X s pure) (trans pure X.lim n (s.L k)) then s.L k else back tl s.H.length (s'.L k) }

theorem Sim.leave {s' : S} {n : Nat} {pure : Bool} {rs : List TK} (h : Sim X Γ s) (hs' : Sim (entryX X s pure) (rs.map TK.toG) s')
    (hf : Fr (entryX X s pure) (fun k => trans pure X.lim n (s.L k)) s.w s'.L s'.w) (tl : Nat → Lab) :
    Sim X (if pure then Γ else touchG none true Γ) (exit' X s s' pure n tl) ∧ Fr X s.L s.w (exit' X s s' pure n tl).L s'.w ∧
      (∀ (j : Nat) (tk : TK), rs[j]? = some tk → tk ≠ .sh → s'.v j = .undef ∨ (match tk with | .fl => R X.P s'.w .rep (fun _ => False) (s'.v j) (s'.c j) | .own => R X.P s'.w .own ((exit' X s s' pure n tl).fp (· = tl j)) (s'.v j) (s'.c j) | .sh => False | .fz => R X.P s'.w .full ((exit' X s s' pure n tl).fp (· = .nw)) (s'.v j) (s'.c j))) := by
  let Xc := entryX X s pure
  let Lc : Nat → Lab := fun k => trans pure X.lim n (s.L k)
  let s2 := exit' X s s' pure n tl
  have hlt : ∀ k, s.L k ≠ .no → k < s.w.heap.size := fun k hk => by
    rcases Nat.lt_or_ge k s.w.heap.size with h1 | h1
    · exact h1
    · exact absurd (h.top k h1) hk
  -- what is kept
  have kept : ∀ k, k < s.w.heap.size → keeps Xc (Lc k) → s2.L k = s.L k ∧ s2.w.heap[k]? = s.w.heap[k]? ∧ s'.L k = Lc k := fun k hk hl => by
    obtain ⟨g1, g2⟩ := hf.keep k hk hl
    exact ⟨if_pos ⟨hk, hl⟩, g1, g2⟩
  have notkept : ∀ k, ¬ (k < s.w.heap.size ∧ keeps Xc (Lc k)) → s2.L k = back tl s.H.length (s'.L k) := fun k hk => if_neg hk
  have lc_sh : ∀ k, Lc k = .sh → keeps Xc (Lc k) := fun k hk => by rw [hk]; trivial
  have lim_le := Den.lim_le (pure := pure) h
  have bkept : ∀ k, pure = true → (∃ r j, s.L k = .b r j) → Lc k = .sh := fun k hp ⟨r, j, hk⟩ => by simp [Lc, hk, trans, hp]
  -- the boxes' keeping
  have hbox1 : ∀ r b, s.H[r]? = some b → keepB X.lim r b.1 = true ∨ pure = true → keeps Xc (.bk r) := by
    intro r b hb hk
    rcases hk with hk | hk
    · unfold keepB viewV at hk
      by_cases h1 : r < X.lim ∧ b.1 ≠ .fn
      · exact .inl (show r < limV pure X.lim s.H by omega)
      · rw [if_neg h1] at hk
        refine .inr ⟨_, entryX_b0 hb, ?_⟩
        cases hb1 : b.1 <;> rw [hb1] at hk <;> simp at hk ⊢
    · exact .inl (by show r < limV pure X.lim s.H; simp [limV, hk]; exact H_lt hb)
  have hH2 : ∀ r b, s.H[r]? = some b → s2.H[r]? = some (if keepB X.lim r b.1 = true ∨ pure = true then b else (b.1, (s'.H.getD r b).2)) := by
    intro r b hb
    show (if pure then s.H else mergeH X.lim s.H s'.H)[r]? = _
    by_cases hp : pure = true
    · simp [hp, hb]
    · simp only [hp, mergeH]
      simp [hb]
  have hH2len : s2.H.length = s.H.length := by
    show (if pure then s.H else mergeH X.lim s.H s'.H).length = _
    by_cases hp : pure = true <;> simp [hp, mergeH]
  have hst : Stay none (!pure) s s2 := by
    refine ⟨rfl, rfl, fun k hk hkl => ?_, fun r b hb => ?_⟩
    · have : keeps Xc (Lc k) := by
        have hk1 := hk.2.2
        have hk2 := hk.2.1
        show keeps Xc (trans pure X.lim n (s.L k))
        cases hl : s.L k with
        | no => trivial
        | sh => trivial
        | nw => simp only [trans]; split <;> trivial
        | s x => trivial
        | t x j => trivial
        | res j => rw [hl] at hk1; exact absurd trivial hk1
        | bk r => rw [hl] at hk1; exact absurd trivial hk1
        | b r j =>
          rw [hl] at hk2
          have hp : pure = true := by
            cases pure
            · exact absurd trivial (hk2 rfl)
            · rfl
          simp [trans, hp, keeps]
      obtain ⟨g1, g2, _⟩ := kept k hkl this
      exact ⟨g1, g2⟩
    · refine ⟨_, hH2 r b hb, ?_, rfl, fun hbx hown => ?_⟩
      · split <;> rfl
      · have hp : pure = true := by simpa using hbx
        refine ⟨if_pos (.inr hp), ?_⟩
        obtain ⟨vals, e, g1, g2, _⟩ := h.box r b hb
        exact (kept _ (Array.getElem?_eq_some_iff.1 g1).1 (by show keeps Xc (trans pure X.lim n (s.L (s.bm r))); rw [g2]; exact hbox1 r b hb (.inr hp))).2.1
  have hbox : ∀ r b', s2.H[r]? = some b' → BoxOk X s2 r b' := by
    intro r b' hb'
    have hr : r < s.H.length := by rw [← hH2len]; exact H_lt hb'
    have hb : s.H[r]? = some s.H[r] := List.getElem?_eq_getElem hr
    generalize s.H[r] = b at hb
    have hb2 := hH2 r b hb
    rw [hb'] at hb2
    injection hb2 with hb2
    obtain ⟨vals, e, g1, g2, g3, g4⟩ := h.box r b hb
    by_cases hk : keepB X.lim r b.1 = true ∨ pure = true
    · have hkk := hk
      rw [if_pos hk] at hb2
      subst hb2
      obtain ⟨k1, k2, _⟩ := kept _ (Array.getElem?_eq_some_iff.1 g1).1 (by show keeps Xc (trans pure X.lim n (s.L (s.bm r))); rw [g2]; exact hbox1 r b' hb hk)
      refine ⟨vals, e, k2.trans g1, k1.trans g2, g3, fun j hj => ?_⟩
      have hc := g4 j hj
      generalize hvw : X.view r b'.1 = ck at hc
      have stp : ∀ (l : Lab), l ≠ .no → (∀ k, s.L k = l → keeps Xc (Lc k)) → ∀ k, s.L k = l → s2.L k = s.L k ∧ s2.w.heap[k]? = s.w.heap[k]? := fun l hl hkp k hk => by
        obtain ⟨q1, q2, _⟩ := kept k (hlt k (by rw [hk]; exact hl)) (hkp k hk)
        exact ⟨q1, q2⟩
      cases ck with
      | fn => exact hc.imp id fun hc => hc.step (by rw [hH2len]; exact Nat.le_refl _) (fun _ _ => rfl)
      | sh => exact R.step (s' := s2) hc (stp .sh (by simp) fun k hk => by simp [Lc, hk, trans, keeps])
      | own =>
        refine R.step (s' := s2) hc (stp (.b r j) (by simp) fun k hk => ?_)
        have hp : pure = true := by
          rcases hkk with hk0 | hk0
          · rw [view_eq rfl] at hvw
            unfold keepB at hk0; rw [hvw] at hk0; cases hk0
          · exact hk0
        simp [Lc, hk, trans, hp, keeps]
      | fz =>
        refine R.step (s' := s2) hc (stp .nw (by simp) fun k hk => ?_)
        simp only [Lc, hk, trans]; split <;> trivial
    · rw [if_neg hk] at hb2
      subst hb2
      have hp : pure = false := by cases pure <;> simp at hk ⊢
      have hkb : keepB X.lim r b.1 = false := by cases hq : keepB X.lim r b.1 <;> simp [hq] at hk ⊢
      -- the called one's box
      obtain ⟨b2, q1, q2, q3⟩ := hs'.n0.2 r _ (entryX_b0 (X := X) (pure := pure) hb)
      simp only at q2 q3
      have e1 : s'.H.getD r b = b2 := by rw [List.getD_eq_getElem?_getD, q1]; rfl
      rw [e1]
      obtain ⟨vals', e', p1, p2, p3, p4⟩ := hs'.box r b2 q1
      rw [q3] at p1 p2
      have hlimr : ¬ (r < X.lim) ∧ (b.1 = .own ∨ b.1 = .fz) := by
        unfold keepB viewV at hkb
        by_cases h1 : r < X.lim ∧ b.1 ≠ .fn
        · rw [if_pos h1] at hkb; cases hkb
        · rw [if_neg h1] at hkb
          have h2 : b.1 = .own ∨ b.1 = .fz := by cases hb1 : b.1 <;> rw [hb1] at hkb <;> simp at hkb ⊢
          refine ⟨fun h3 => h1 ⟨h3, ?_⟩, h2⟩
          rcases h2 with h2 | h2 <;> rw [h2] <;> simp
      have hnk : ¬ keeps Xc (.bk r) := by
        rintro (h1 | ⟨p, h1, h2⟩)
        · change r < limV pure X.lim s.H at h1; simp [limV, hp] at h1; exact hlimr.1 h1
        · rw [entryX_b0 hb] at h1; injection h1 with h1; subst h1
          rcases hlimr.2 with h3 | h3 <;> rcases h2 with h2 | h2 <;> simp only at h2 <;> rw [h3] at h2 <;> cases h2
      refine ⟨vals', e', p1, ?_, p3, fun j hj => ?_⟩
      · have : s2.L (s.bm r) = back tl s.H.length (s'.L (s.bm r)) := notkept _ fun hx => hnk (by
          have h2 := hx.2
          change keeps Xc (trans pure X.lim n (s.L (s.bm r))) at h2
          rw [g2] at h2; exact h2)
        show s2.L (s.bm r) = _
        rw [this, p2]; exact if_pos hr
      · have hc := p4 j hj
        have v1 : Xc.view r b2.1 = b.1 := by
          rw [q2, view_eq rfl]; exact if_neg (by show ¬ (r < limV pure X.lim s.H ∧ _); simp [limV, hp, hlimr.1])
        have v2 : X.view r b.1 = b.1 := by rw [view_eq rfl]; exact if_neg (by simp [hlimr.1])
        change CellOk Xc s' r j _ _ (Xc.view r b2.1) at hc
        rw [v1] at hc
        rw [v2]
        rcases hlimr.2 with hb1 | hb1
        · rw [hb1] at hc ⊢
          refine R.relabel (s := s') (s1 := s2) hc fun k hk => ⟨?_, rfl⟩
          have : s2.L k = back tl s.H.length (s'.L k) := notkept _ fun hx => by
            have := (kept k hx.1 hx.2).2.2
            rw [hk] at this
            have h2 := hx.2
            rw [← this] at h2
            change r < limV pure X.lim s.H at h2
            simp [limV, hp] at h2; exact hlimr.1 h2
          rw [this, hk]; exact if_pos hr
        · rw [hb1] at hc ⊢
          refine R.relabel (s := s') (s1 := s2) hc fun k hk => ⟨?_, rfl⟩
          by_cases hx : k < s.w.heap.size ∧ keeps Xc (Lc k)
          · obtain ⟨k1, _, k3⟩ := kept k hx.1 hx.2
            rw [k1]
            rw [hk] at k3
            have : trans pure X.lim n (s.L k) = .nw := k3.symm
            cases hl : s.L k <;> rw [hl] at this <;> simp only [trans] at this <;> first | rfl | (split at this <;> cases this) | cases this
          · rw [notkept k hx, hk]; rfl
  have htop : ∀ k, s2.w.heap.size ≤ k → s2.L k = .no := fun k hk => by
    have : s2.L k = back tl s.H.length (s'.L k) := notkept k fun hx => by
      have := hf.size
      have h2 : s'.w.heap.size ≤ k := hk
      have h3 := hx.1
      omega
    rw [this, hs'.top k hk]; rfl
  refine ⟨?_, ?_, fun j tk htk hsh => ?_⟩
  · have := h.ghost hst hbox htop
    by_cases hp : pure = true
    · rw [if_pos hp]
      have e : touchG none (!pure) Γ = Γ := by
        rw [hp]
        apply List.ext_getElem?
        intro i
        simp only [touchG, List.getElem?_mapIdx]
        cases hi : Γ[i]? with
        | none => rfl
        | some g => simp only [Option.map_some]; cases g <;> simp [kills]
      rw [e] at this; exact this
    · rw [if_neg hp]
      have e : (!pure) = true := by simpa using hp
      rw [e] at this; exact this
  · refine ⟨hf.os, hf.tape, hf.output, hf.size, fun k hk hl => ?_⟩
    have : keeps Xc (Lc k) := by
      show keeps Xc (trans pure X.lim n (s.L k))
      cases hlk : s.L k with
      | no => trivial
      | sh => trivial
      | nw => simp only [trans]; split <;> trivial
      | s x => trivial
      | t x j => trivial
      | res j => rw [hlk] at hl; exact hl.elim
      | b r j =>
        rw [hlk] at hl
        change r < X.lim at hl
        simp [trans, hl, keeps]
      | bk r =>
        rw [hlk] at hl
        rcases hl with hl | ⟨p, hp, hk2⟩
        · exact .inl (show r < limV pure X.lim s.H by omega)
        · obtain ⟨b, q1, q2, _⟩ := h.n0.2 r p hp
          exact .inr ⟨_, entryX_b0 q1, by rw [q2]; exact hk2⟩
    obtain ⟨g1, g2, _⟩ := kept k hk this
    exact ⟨g2, g1⟩
  · have hsl := hs'.slot j tk.toG (by simp [htk])
    rcases hsl with hsl | hsl
    · exact .inl hsl
    · right
      cases tk with
      | fl => exact hsl
      | sh => exact absurd rfl hsh
      | own =>
        refine R.relabel (s := s') (s1 := s2) hsl fun k hk => ⟨?_, rfl⟩
        have : s2.L k = back tl s.H.length (s'.L k) := notkept k fun hx => by
          have k3 := (kept k hx.1 hx.2).2.2
          have h2 := hx.2
          rw [← k3, hk] at h2
          exact h2
        rw [this, hk]; rfl
      | fz =>
        refine R.relabel (s := s') (s1 := s2) hsl fun k hk => ⟨?_, rfl⟩
        by_cases hx : k < s.w.heap.size ∧ keeps Xc (Lc k)
        · obtain ⟨k1, _, k3⟩ := kept k hx.1 hx.2
          rw [k1]
          rw [hk] at k3
          have : trans pure X.lim n (s.L k) = .nw := k3.symm
          cases hl : s.L k <;> rw [hl] at this <;> simp only [trans] at this <;> first | rfl | (split at this <;> cases this) | cases this
        · rw [notkept k hx, hk]; rfl
end
end Go.Den
set_option autoImplicit false
namespace Go.Den

def resG (rs : List TK) : G := match rs with
  | [tk] => tk.toG
  | ks => .tup ks
def callG (sg : Sig) (d : Option Nat) (Γ : List G) : List G :=
  let Γ2 := if sg.pure then Γ else touchG none true Γ
  match d with
  | none => Γ2
  | some d => setG none false d (resG sg.rs) Γ2

section
variable {X : Cx} {Γ : List G} {s : S} {L0 : Nat → Lab} {w0 : World} {K : KV} {o : Oper} {Q : Exit → Act → World → Prop}

theorem call_core {g : Nat} {sg : Sig} {T : Tr} {d : Option Nat} {vs : List PV} {cs : List Value} (hspec : Spec X.P g sg T) (h : Sim X Γ s) (f : Fr X L0 w0 s.L s.w) (hl : sg.ps.length = vs.length) (hc : cs.length = vs.length)
    (hargs : ∀ (i : Nat) (p : PK) (v : PV) (c : Value), sg.ps[i]? = some p → vs[i]? = some v → cs[i]? = some c → ArgFact X s sg.pure (limV sg.pure X.lim s.H) vs.length i v c p)
    (hsh : ∀ tk ∈ sg.rs, tk ≠ TK.sh) (hT : T (limV sg.pure X.lim s.H) vs s.H fun rs H' => K (setD s.σ d (packP rs)) (if sg.pure then s.H else mergeH X.lim s.H H'))
    (hd : ∀ d', d = some d' → d' < Γ.length) (ho : o.dst = d) (hrun : (execOp s.a.eval o).run X.P s.w = .ok (.enter g cs.toArray) s.w) : o.wp X.P s.a s.w (Good X (callG sg d Γ) L0 w0 K) Q := by
  unfold Oper.wp
  rw [hrun, Oper.upon_enter]
  have hlim : sg.pure = true → (entryX X s sg.pure).lim = (entryX X s sg.pure).n0 := fun hp => by rw [entryX_n0]; simp [entryX, limV, hp]
  refine (hspec.2 (entryX X s sg.pure) (entry X s sg.pure vs cs) _ rfl (h.entry hl hc hargs) entryX_n0 hlim hT).mono ?_
  rintro e w' ⟨s', rfl, rfl, hs', hf', H2, hH2, hK⟩
  replace hK : K (setD s.σ d (packP s'.σ)) (if sg.pure then s.H else mergeH X.lim s.H s'.H) := by
    rcases hH2 with hp | rfl
    · rw [if_pos hp] at hK ⊢; exact hK
    · exact hK
  show Good X (callG sg d Γ) L0 w0 K (s.a.put o.dst (packV s'.a.tmps)) s'.w
  rw [ho]
  have hlen : s'.σ.length = sg.rs.length := by have := hs'.lenG; simpa using this.symm
  have hsz : s'.a.tmps.size = sg.rs.length := by rw [hs'.lenA, hlen]
  let tl : Nat → Lab := fun j => if sg.rs.length = 1 then .res j else match d with | some d => .t d j | none => .no
  obtain ⟨h2, hf2, hr2⟩ := h.leave hs' hf' tl
  let s2 := exit' X s s' sg.pure vs.length tl
  have hf2' : Fr X L0 w0 s2.L s2.w := f.trans hf2
  cases d with
  | none => exact ⟨s2, rfl, rfl, h2, hf2', hK⟩
  | some d =>
    have hdl : d < (if sg.pure then Γ else touchG none true Γ).length := by
      have := hd d rfl
      split
      · exact this
      · rw [touchG_len]; exact this
    by_cases h1 : sg.rs.length = 1
    · -- one result
      obtain ⟨tk, htk⟩ : ∃ tk, sg.rs = [tk] := List.length_eq_one_iff.1 h1
      obtain ⟨v, hv⟩ : ∃ v, s'.σ = [v] := List.length_eq_one_iff.1 (by omega)
      have hpv : packV s'.a.tmps = s'.c 0 := by
        unfold packV
        rw [dif_pos (by omega)]
        simp [S.c, Array.getD, show 0 < s'.a.tmps.size by omega]
      have hpp : packP s'.σ = s'.v 0 := by rw [hv]; simp [packP, S.v, hv]
      rw [hpv]
      change K (s.σ.set d (packP s'.σ)) _ at hK
      rw [hpp] at hK
      have hr := hr2 0 tk (by rw [htk]; rfl) (hsh tk (by rw [htk]; simp))
      have hΓ : callG sg (some d) Γ = setG none false d tk.toG (if sg.pure then Γ else touchG none true Γ) := by simp only [callG, htk, resG]
      rw [hΓ]
      rcases hr with hr | hr
      · exact ⟨s2.put d (s'.v 0) (s'.c 0), rfl, rfl, h2.set hdl (.inl hr), hf2', hK⟩
      · cases tk with
        | sh => exact hr.elim
        | fl => exact ⟨s2.put d (s'.v 0) (s'.c 0), rfl, rfl, h2.set hdl (.inr hr), hf2', hK⟩
        | fz => exact ⟨s2.put d (s'.v 0) (s'.c 0), rfl, rfl, h2.set hdl (.inr hr), hf2', hK⟩
        | own =>
          have htl : tl 0 = .res 0 := if_pos h1
          simp only [htl] at hr
          obtain ⟨L3, h3, hf3, _⟩ := h2.ownPut (d := d) (i := 0) hdl hr
          exact ⟨({ s2 with L := L3 } : S).put d (s'.v 0) (s'.c 0), rfl, rfl, h3, hf2'.trans hf3, hK⟩
    · have hpv : packV s'.a.tmps = .tuple s'.a.tmps := by
        unfold packV
        rw [dif_neg (by omega)]
      have hpp : packP s'.σ = .tup s'.σ := by
        unfold packP
        split
        · rename_i v hv; rw [hv] at hlen; simp at hlen; omega
        · rfl
      rw [hpv]
      change K (s.σ.set d (packP s'.σ)) _ at hK
      rw [hpp] at hK
      have hΓ : callG sg (some d) Γ = setG none false d (.tup sg.rs) (if sg.pure then Γ else touchG none true Γ) := by
        simp only [callG, resG]
        split
        · rename_i tk heq; rw [heq] at h1; simp at h1
        · rfl
      rw [hΓ]
      refine ⟨s2.put d (.tup s'.σ) (.tuple s'.a.tmps), rfl, rfl, h2.set hdl (.inr ⟨_, _, rfl, rfl, by omega, by omega, fun j hj => ?_⟩), hf2', hK⟩
      have hj' : j < sg.rs.length := by omega
      have hr := hr2 j sg.rs[j] (List.getElem?_eq_getElem hj') (hsh _ (List.getElem_mem hj'))
      have e1 : sg.rs.getD j .fl = sg.rs[j] := by rw [List.getD_eq_getElem?_getD, List.getElem?_eq_getElem hj']; rfl
      rw [e1]
      change s'.v j = .undef ∨ _ at hr
      have htl : tl j = .t d j := if_neg h1
      show TkOk X.P (s2.put d _ _) (.t d j) (s'.v j) (s'.c j) sg.rs[j]
      rcases hr with hr | hr
      · rw [hr]
        cases sg.rs[j] <;> exact .unk
      · cases htk : sg.rs[j] with
        | sh => rw [htk] at hr; exact hr.elim
        | fl => rw [htk] at hr; exact hr
        | fz => rw [htk] at hr; exact hr
        | own => rw [htk] at hr; simp only [htl] at hr; exact hr

/-! #### a call of a known function, of a function value -/
def rdOk (pure : Bool) : G → Bool
  | .fl | .own | .rd _ | .al _ | .sh => true
  | .fz | .rn | .bal _ _ | .brd => pure
  | _ => false
def argOk (pure : Bool) (Γ : List G) : PK → Operand → Bool
  | .fl, x => kdO Γ x == .fl
  | .rd, x => rdOk pure (kdO Γ x)
  | .own, _ => true
  | .fz, _ => !pure
  | .ptr _, x => match kdO Γ x with | .ptr _ _ => true | _ => false
  | .fn, x => kdO Γ x == .fn
def argsOk (pure : Bool) (Γ : List G) : List PK → List Operand → Bool
  | [], [] => true
  | p :: ps, x :: xs => argOk pure Γ p x && argsOk pure Γ ps xs
  | _, _ => false
def elabCall (sg : Sig) (nc : Nat) (Γ : List G) (d : Option Nat) (xs : List Operand) : Option (List Src × List G) :=
  if sg.rs.all (fun tk => tk != .sh) = true ∧ (∀ d', d = some d' → d' < Γ.length) ∧ sg.ps.length = xs.length + nc ∧ (sg.ps.drop xs.length).all (fun p => match p with | .ptr _ => true | _ => false) = true then
    match eats ((sg.ps.take xs.length).map PK.eat) xs Γ with
    | some (Γ1, ss) => if argsOk sg.pure Γ1 (sg.ps.take xs.length) xs then some (ss, callG sg d Γ1) else none
    | none => none
  else none

theorem argsOk_get {pure : Bool} {Γ : List G} : ∀ {ps : List PK} {xs : List Operand} {i : Nat} {p : PK} {x : Operand}, argsOk pure Γ ps xs = true → ps[i]? = some p → xs[i]? = some x → argOk pure Γ p x = true
  | [], _, _, _, _, _, hp, _ => by simp at hp
  | _ :: _, [], _, _, _, _, _, hv => by simp at hv
  | p0 :: ps, v0 :: vs, 0, p, v, h, hp, hv => by
    simp only [List.getElem?_cons_zero, Option.some.injEq] at hp hv
    simp only [argsOk, Bool.and_eq_true] at h
    subst hp; subst hv; exact h.1
  | p0 :: ps, v0 :: vs, i + 1, p, v, h, hp, hv => by
    simp only [argsOk, Bool.and_eq_true] at h
    exact argsOk_get h.2 (by simpa using hp) (by simpa using hv)

theorem rdOk_data {X : Cx} {Γ : List G} {s : S} {pure : Bool} {n : Nat} (hs : Sim X Γ s) {i : Nat} {v : PV} {c : Value} {g : G} (h : Real X s i v c g) (hr : rdOk pure g = true) : R X.P s.w .rep (s.fp fun l => trans pure X.lim n l = .sh) v c := by
  have key : ∀ p, g.data i = some p → (∀ l, p l → trans pure X.lim n l = .sh) → R X.P s.w .rep (s.fp fun l => trans pure X.lim n l = .sh) v c := fun p hp hl => (h.data hs hp).mono fun k hk => hl _ hk
  cases g <;> simp only [rdOk, Bool.false_eq_true] at hr
  case fl => exact key _ rfl fun l hl => hl.elim
  case own => exact key _ rfl fun l hl => by cases hl; rfl
  case sh => exact key _ rfl fun l hl => by cases hl; rfl
  case rd x => exact key _ rfl fun l hl => by cases hl; rfl
  case al x => exact key _ rfl fun l hl => by cases hl; rfl
  case fz => exact key _ rfl fun l hl => by cases hl; simp [trans, hr]
  case rn => exact key _ rfl fun l hl => by cases hl; simp [trans, hr]
  case bal u m => exact key _ rfl fun l hl => by cases l <;> simp [Lab.isB] at hl; simp [trans, hr]
  case brd => exact key _ rfl fun l hl => by cases l <;> simp [Lab.isB] at hl; simp [trans, hr]

/-- The arguments, with what is eaten in hand. -/
theorem args_facts {sg : Sig} {nc : Nat} {d : Option Nat} {xs : List Operand} {caps : List PV} {ccs : List Value} {ss : List Src} {Γ' : List G} (he : elabCall sg nc Γ d xs = some (ss, Γ')) (h : Sim X Γ s)
    (hcl : caps.length = nc) (hcc : ccs.length = nc) (hcap : ∀ i, i < nc → ∃ r j, caps.getD i .undef = .ref r j ∧ r < s.H.length ∧ ccs.getD i undef = .pointer (some ⟨s.bm r, j, none⟩))
    (hv : argsV (limV sg.pure X.lim (eatsH s.σ s.H ss)) (eatsH s.σ s.H ss) sg.ps (xs.map (valO s.σ) ++ caps)) :
    ∃ Γ1 L1, Γ' = callG sg d Γ1 ∧ Γ1.length = Γ.length ∧ (∀ d', d = some d' → d' < Γ.length) ∧ (∀ tk ∈ sg.rs, tk ≠ TK.sh) ∧ sg.ps.length = (xs.map (valO s.σ) ++ caps).length ∧ (xs.map s.a.eval ++ ccs).length = (xs.map (valO s.σ) ++ caps).length ∧
      Sim X Γ1 { s with L := L1, H := eatsH s.σ s.H ss } ∧ Fr X s.L s.w L1 s.w ∧
      ∀ (i : Nat) (p : PK) (v : PV) (c : Value), sg.ps[i]? = some p → (xs.map (valO s.σ) ++ caps)[i]? = some v → (xs.map s.a.eval ++ ccs)[i]? = some c →
        ArgFact X { s with L := L1, H := eatsH s.σ s.H ss } sg.pure (limV sg.pure X.lim (eatsH s.σ s.H ss)) (xs.map (valO s.σ) ++ caps).length i v c p := by
  unfold elabCall at he
  split at he
  · rename_i hc
    obtain ⟨hsh, hdl, hpl, hptr⟩ := hc
    split at he
    · rename_i Γ1 ss' hea
      split at he
      · rename_i hok
        simp only [Option.some.injEq, Prod.mk.injEq] at he
        obtain ⟨rfl, rfl⟩ := he
        have take_get : ∀ i, i < xs.length → (sg.ps.take xs.length)[i]? = sg.ps[i]? := fun i hi => by rw [List.getElem?_take]; simp [hi]
        have vget : ∀ i x, xs[i]? = some x → (xs.map (valO s.σ) ++ caps)[i]? = some (valO s.σ x) := fun i x hx => by
          have hi := (List.getElem?_eq_some_iff.1 hx).1
          rw [List.getElem?_append_left (by simpa using hi)]; simp [hx]
        obtain ⟨L1, hs1, hh, hf1, _⟩ := Sim.eats _ _ Γ Γ1 s ss' 0 h hea (fun j m x hm hx => by
          simp only [List.getElem?_map, Option.map_eq_some_iff] at hm
          obtain ⟨p, hp, rfl⟩ := hm
          have hj := (List.getElem?_eq_some_iff.1 hx).1
          rw [take_get j hj] at hp
          have hav := argsV_get hv hp (vget j x hx)
          cases p <;> first | exact .inl rfl | exact .inr hav)
        refine ⟨Γ1, L1, rfl, by rw [hs1.lenG, h.lenG], hdl, fun tk htk => by simp only [List.all_eq_true] at hsh; simpa using hsh tk htk, by simp [hpl, hcl], by simp [hcl, hcc], hs1, hf1, fun i p v c hp hvi hci => ?_⟩
        have hav := argsV_get hv hp hvi
        by_cases hi : i < xs.length
        · have hx : xs[i]? = some xs[i] := List.getElem?_eq_getElem hi
          have hv' : valO s.σ xs[i] = v := by have := vget i _ hx; rw [hvi] at this; injection this with this; exact this.symm
          have hc' : s.a.eval xs[i] = c := by
            rw [List.getElem?_append_left (by simpa using hi)] at hci; simpa [hx] using hci
          have hao := argsOk_get hok (i := i) (p := p) (x := xs[i]) (by rw [take_get i hi]; exact hp) hx
          have hop := hs1.opnd xs[i]
          change valO s.σ xs[i] = .undef ∨ Real X { s with L := L1, H := eatsH s.σ s.H ss' } (slotO xs[i]) (valO s.σ xs[i]) (s.a.eval xs[i]) (kdO Γ1 xs[i]) at hop
          rw [hv', hc'] at hop
          cases p with
          | fl =>
            simp only [argOk, beq_iff_eq] at hao
            rw [hao] at hop
            exact hop
          | rd => exact hop.imp id fun hop => rdOk_data hs1 hop hao
          | own =>
            have := hh i .own xs[i] (by rw [List.getElem?_map, take_get i hi, hp]; rfl) hx
            rw [hv', hc', Nat.zero_add] at this
            exact this
          | fz =>
            have := hh i .fz xs[i] (by rw [List.getElem?_map, take_get i hi, hp]; rfl) hx
            rw [hv', hc', Nat.zero_add] at this
            exact ⟨by simpa [argOk] using hao, this⟩
          | ptr ck =>
            simp only [argOk] at hao
            split at hao
            · rename_i ck0 m0 hkd
              rw [hkd] at hop
              have hvu : v ≠ .undef := by intro hx; rw [hx] at hav; exact hav
              obtain ⟨r, j, b, h1, h2, h3, h4, h5⟩ := hop.resolve_left hvu
              refine ⟨r, j, b, h1, h2, h3, ?_⟩
              rw [h1] at hav
              simp only [argV] at hav
              change (match (eatsH s.σ s.H ss')[r]? with | some b => viewV _ r b.1 = ck | none => False) at hav
              change (eatsH s.σ s.H ss')[r]? = some b at h3
              rw [h3] at hav
              exact hav
            · cases hao
          | fn =>
            simp only [argOk, beq_iff_eq] at hao
            rw [hao] at hop
            exact hop.resolve_left hav
        · have hi' : xs.length ≤ i := by omega
          rw [List.getElem?_append_right (by simpa using hi')] at hvi hci
          simp only [List.length_map] at hvi hci
          have hil : i - xs.length < nc := by rw [← hcl]; exact (List.getElem?_eq_some_iff.1 hvi).1
          obtain ⟨r, j, h1, h2, h3⟩ := hcap _ hil
          rw [List.getD_eq_getElem?_getD, hvi] at h1
          rw [List.getD_eq_getElem?_getD, hci] at h3
          simp only [Option.getD_some] at h1 h3
          have hp' : ∃ ck, p = .ptr ck := by
            simp only [List.all_eq_true] at hptr
            have := hptr p (by rw [List.mem_iff_getElem?]; exact ⟨i - xs.length, by rw [List.getElem?_drop, show xs.length + (i - xs.length) = i by omega]; exact hp⟩)
            cases p <;> first | exact ⟨_, rfl⟩ | cases this
          obtain ⟨ck, rfl⟩ := hp'
          have hr2 : r < (eatsH s.σ s.H ss').length := by rw [eatsH_len]; exact h2
          rw [h1] at hav
          simp only [argV] at hav
          rw [List.getElem?_eq_getElem hr2] at hav
          exact ⟨r, j, _, h1, h3, List.getElem?_eq_getElem hr2, hav⟩
      · cases he
    · cases he
  · cases he

theorem run_enter {P : Program} {g : Nat} (h : ∃ fn, P.funcs[g]? = some fn ∧ (fn.name == "runtime.NumGoroutine") = false ∧ fn.body.isNone = false) (args : Array Value) (w : World) : (callFunc g args).run P w = .ok (.enter g args) w := by
  obtain ⟨fn, h1, h2, h3⟩ := h
  have h2' : ¬ fn.name = "runtime.NumGoroutine" := by simpa using h2
  have h3' : fn.body ≠ none := by intro hx; rw [hx] at h3; cases h3
  simp [callFunc, h1, h2', h3']

theorem call_sound {g : Nat} {sg : Sig} {T : Tr} {d : Option Nat} {args : Array Operand} {ats : Array TypeId} {ss : List Src} {Γ' : List G} (hspec : Spec X.P g sg T) (he : elabCall sg 0 Γ d args.toList = some (ss, Γ')) (h : Sim X Γ s) (f : Fr X L0 w0 s.L s.w) (ho : o.dst = d)
    (hop : o.op = .call { callee := .value (.func g), args := args, argTypes := ats })
    (hk : callV T X.lim sg d (args.toList.map (valO s.σ)) s.σ (eatsH s.σ s.H ss) K) : o.wp X.P s.a s.w (Good X Γ' L0 w0 K) Q := by
  obtain ⟨hav, hT⟩ := hk
  obtain ⟨Γ1, L1, rfl, hΓl, hdl, hsh, hl, hc, hs1, hf1, hargs⟩ := args_facts (caps := []) (ccs := []) he h rfl rfl (fun i hi => absurd hi (by omega)) (by rw [List.append_nil]; exact hav)
  simp only [List.append_nil] at hl hc hargs
  refine call_core (s := { s with L := L1, H := eatsH s.σ s.H ss }) hspec hs1 (f.trans hf1) hl hc hargs hsh hT (fun d' hd' => by rw [hΓl]; exact hdl d' hd') ho ?_
  show (execOp s.a.eval o).run X.P s.w = _
  unfold execOp
  simp only [hop, resolve, Act.eval, Deferred.ofValue]
  simp [invoke, run_enter hspec.1]
  apply Array.ext'
  simp

theorem callv_sound {g : Nat} {sg : Sig} {T : Tr} {d : Option Nat} {fo : Operand} {nc : Nat} {args : Array Operand} {ats : Array TypeId} {ss : List Src} {Γ' : List G} (hspec : Spec X.P g sg T) (he : elabCall sg nc Γ d args.toList = some (ss, Γ')) (hkd : kdO Γ fo = .fn) (h : Sim X Γ s) (f : Fr X L0 w0 s.L s.w) (ho : o.dst = d)
    (hop : o.op = .call { callee := .value fo, args := args, argTypes := ats })
    (hk : ∃ caps, valO s.σ fo = .fn g caps ∧ caps.length = nc ∧ callV T X.lim sg d (args.toList.map (valO s.σ) ++ caps) s.σ (eatsH s.σ s.H ss) K) : o.wp X.P s.a s.w (Good X Γ' L0 w0 K) Q := by
  obtain ⟨caps, hfo, hcl, hav, hT⟩ := hk
  have hfn : FnOk s.bm s.H.length (valO s.σ fo) (s.a.eval fo) := h.opnd' hkd (by rw [hfo]; simp)
  rcases hfn with ⟨h1, _⟩ | ⟨g', caps', ccs, h1, h2, h3, h4⟩
  · rw [hfo] at h1; cases h1
  rw [hfo] at h1
  injection h1 with h1a h1b
  subst h1a; subst h1b
  obtain ⟨Γ1, L1, rfl, hΓl, hdl, hsh, hl, hc, hs1, hf1, hargs⟩ := args_facts (caps := caps) (ccs := ccs.toList) he h hcl (by simp [h3, hcl]) (fun i hi => by
    obtain ⟨r, j, g1, g2, g3⟩ := h4 i (by omega)
    exact ⟨r, j, g1, g2, by rw [← g3]; simp [List.getD_eq_getElem?_getD, Array.getD_eq_getD_getElem?]⟩) hav
  refine call_core (s := { s with L := L1, H := eatsH s.σ s.H ss }) hspec hs1 (f.trans hf1) hl hc hargs hsh hT (fun d' hd' => by rw [hΓl]; exact hdl d' hd') ho ?_
  show (execOp s.a.eval o).run X.P s.w = _
  unfold execOp
  simp only [hop, resolve, h2, Deferred.ofValue]
  simp [invoke, run_enter hspec.1]
end
end Go.Den
set_option autoImplicit false
namespace Go.Den

/-! ### One operation -/
def flG (d : Nat) (Γ : List G) : List G := setG none false d .fl Γ
def fl2 (Γ : List G) (x y : Operand) : Bool := kdO Γ x == .fl && kdO Γ y == .fl
def hasData (Γ : List G) (x : Operand) : Bool := ((kdO Γ x).data (slotO x)).isSome
def isBoolTy (P : Program) (t : TypeId) : Bool := match P.underlying t with | some .bool => true | _ => false
def isStrTy (P : Program) (t : TypeId) : Bool := match P.underlying t with | some .string => true | _ => false
def isSlTy (P : Program) (t : TypeId) : Bool := match P.underlying t with | some (.slice _) => true | _ => false
def isNilC : Operand → Bool
  | .const (.slice none 0 0) => true
  | _ => false
def negOf : BinOp → Option Bool
  | .eql => some false
  | .neq => some true
  | _ => none

def elabBin (E : Env) (Γ : List G) (d : Nat) (op : BinOp) (T : TypeId) (x y : Operand) : Option (COp × List G) :=
  match negOf op with
  | some neg =>
    if isNilC y = true then (if isSlTy E.P T = true ∧ hasData Γ x = true then some (.isnil d neg x, flG d Γ) else none)
    else if isBoolTy E.P T = true then (if fl2 Γ x y = true then some (.beq d neg x y, flG d Γ) else none)
    else if fl2 Γ x y = true then some (.bin d op x y, flG d Γ) else none
  | none => if fl2 Γ x y = true then some (.bin d op x y, flG d Γ) else none

def elabConv (E : Env) (Γ : List G) (d : Nat) (T T' : TypeId) (x : Operand) : Option (COp × List G) :=
  if kdO Γ x == .fl then
    match E.P.underlying T, E.P.underlying T' with
    | some .string, some .string => some (.ssl d x none none, flG d Γ)
    | some _, some (.int k) => some (.conv d k x, flG d Γ)
    | _, _ => none
  else none

def elabCallOp (E : Env) (Γ : List G) (d : Option Nat) (c : Call) : Option (COp × List G) :=
  match c.callee, c.args.toList, d with
  | .builtin .len, [x], some d => match c.argTypes[0]? with
    | some t => if hasData Γ x = true then (if isStrTy E.P t = true then some (.len d true x, flG d Γ) else if isSlTy E.P t = true then some (.len d false x, flG d Γ) else none) else none
    | none => none
  | .builtin .max, [x, y], some d => if fl2 Γ x y = true then some (.mm d true x y, flG d Γ) else none
  | .builtin .min, [x, y], some d => if fl2 Γ x y = true then some (.mm d false x y, flG d Γ) else none
  | .value (.func g), xs, d => match E.sig g with
    | some sg => match elabCall sg 0 Γ d xs with
      | some (ss, Γ') => some (.call d g sg xs ss, Γ')
      | none => none
    | none => none
  | .value (.tmp t), xs, d => match E.vsig t with
    | some (g, sg, nc) => if kdO Γ (.tmp t) == .fn then
        (match elabCall sg nc Γ d xs with
        | some (ss, Γ') => some (.callv d (.tmp t) g nc sg xs ss, Γ')
        | none => none) else none
    | none => none
  | _, _, _ => none

def elabOp (E : Env) (Γ : List G) (o : Oper) : Option (COp × List G) :=
  match o.dst with
  | some d =>
    if d < Γ.length then
      match o.op with
      | .move x => elabCopy false E Γ d x
      | .assign x => elabCopy true E Γ d x
      | .pick c a b => if kdO Γ c == .fl && fl2 Γ a b then some (.pick d c a b, flG d Γ) else none
      | .alloc T => elabAlloc E Γ d T
      | .box _ x => elabBox E Γ d x
      | .buildSlice T n ps => elabLit E Γ d T n ps.toList
      | .load T u => match kdO Γ u with
        | .ea _ => elabLoadE E Γ d T u
        | _ => elabLoadB E Γ d T u
      | .nilCheck u => match kdO Γ u with
        | .ptr ck m => some (.take d u .none, setG none false d (.ptr ck m) Γ)
        | _ => none
      | .binOp op T x y _ => elabBin E Γ d op T x y
      | .unOp op _ x => if kdO Γ x == .fl then some (.un d op x, flG d Γ) else none
      | .convert T T' x => elabConv E Γ d T T' x
      | .makeFunc fn first caps => elabMkfn Γ d fn first caps
      | .makeSlice T l c => elabMks E Γ d T l c
      | .fieldAddr St u fi => elabFadd E Γ d St u fi
      | .indexAddr T x i => elabIadd E Γ d T x i
      | .index T x i => if isStrTy E.P T && fl2 Γ x i then some (.sidx d x i, flG d Γ) else none
      | .call c => elabCallOp E Γ (some d) c
      | _ => none
    else none
  | none =>
    match o.op with
    | .store T u x => match kdO Γ u with
      | .ea _ => elabStoreE E Γ T u x
      | _ => elabStoreB E Γ T u x
    | .call c => elabCallOp E Γ none c
    | _ => none

/-! ### What an operation does to plain values -/
abbrev Rel := Nat → List PV → Boxes → List PV → Boxes → Prop
def Rel.T (R : Rel) : Tr := fun lim vs H K => ∃ rs H', R lim vs H rs H' ∧ K rs H'
abbrev SpecR (P : Program) (g : Nat) (sg : Sig) (R : Rel) : Prop := Spec P g sg R.T

def COp.dst : COp → Option Nat
  | .fail => none
  | .copy d _ | .take d _ _ | .bin d _ _ _ | .un d _ _ | .conv d _ _ | .pick d _ _ _ | .beq d _ _ _ | .len d _ _ | .isnil d _ _ | .mm d _ _ _ | .ext d _ _ | .box d _ _ _ | .alloc d _ _ | .loadB d _ _ _ => some d
  | .storeB _ _ _ _ => none
  | .fadd d _ _ | .iadd d _ _ _ | .loadE d _ _ _ _ => some d
  | .storeE x _ _ _ => some x
  | .sli d _ _ _ _ | .mks d _ _ _ _ _ | .lit d _ _ _ _ | .build d _ _ _ | .field d _ _ _ _ | .app d _ _ _ _ _ => some d
  | .call d _ _ _ _ => d
  | .callv d _ _ _ _ _ _ => d
  | .mkfn d _ _ | .sidx d _ _ | .ssl d _ _ _ | .sstr d _ => some d

def callR (R : Rel) (lim : Nat) (sg : Sig) (vs : List PV) (H1 : Boxes) (v : PV) (H' : Boxes) : Prop :=
  argsV (limV sg.pure lim H1) H1 sg.ps vs ∧ ∃ rs H2, R (limV sg.pure lim H1) vs H1 rs H2 ∧ v = packP rs ∧ H' = if sg.pure then H1 else mergeH lim H1 H2

def COp.run (Tb : Nat → Rel) (lim : Nat) : COp → List PV → Boxes → PV → Boxes → Prop
  | .copy _ x, σ, H, v, H' => v = valO σ x ∧ H' = H
  | .take _ x src, σ, H, v, H' => valO σ x ≠ .undef ∧ v = valO σ x ∧ H' = eatH σ H src
  | .bin _ op x y, σ, H, v, H' => binV op (valO σ x) (valO σ y) = some v ∧ H' = H
  | .un _ op x, σ, H, v, H' => unV op (valO σ x) = some v ∧ H' = H
  | .conv _ k x, σ, H, v, H' => convV k (valO σ x) = some v ∧ H' = H
  | .pick _ c a b, σ, H, v, H' => (∃ t, valO σ c = .bool t ∧ v = (if t then valO σ a else valO σ b) ∧ v ≠ .undef) ∧ H' = H
  | .beq _ neg x y, σ, H, v, H' => beqV neg (valO σ x) (valO σ y) = some v ∧ H' = H
  | .len _ str x, σ, H, v, H' => lenV str (valO σ x) = some v ∧ H' = H
  | .isnil _ neg x, σ, H, v, H' => isnilV neg (valO σ x) = some v ∧ H' = H
  | .mm _ mx x y, σ, H, v, H' => mmV mx (valO σ x) (valO σ y) = some v ∧ H' = H
  | .box _ ck x src, σ, H, v, H' => valO σ x ≠ .undef ∧ v = .ref H.length 0 ∧ H' = eatH σ H src ++ [(ck, (valO σ x).cells)]
  | .alloc _ ck zs, _, H, v, H' => v = .ref H.length 0 ∧ H' = H ++ [(ck, zs)]
  | .loadB _ u n fl, σ, H, v, H' => (loadV H (valO σ u) n = some v ∧ (fl = true → v.isFlat = true)) ∧ H' = H
  | .storeB u x n src, σ, H, v, H' => valO σ x ≠ .undef ∧ storeV (eatH σ H src) (valO σ u) (valO σ x) n = some H' ∧ v = .undef
  | .fadd _ u off, σ, H, v, H' => faddV (valO σ u) off = some v ∧ H' = H
  | .iadd _ t e i, σ, H, v, H' => iaddV e (σ.getD t .undef) (valO σ i) = some v ∧ H' = H
  | .loadE _ t u n fl, σ, H, v, H' => (elemV (σ.getD t .undef) (σ.getD u .undef) n = some v ∧ (fl = true → v.isFlat = true)) ∧ H' = H
  | .storeE x u n y, σ, H, v, H' => storeEV (σ.getD x .undef) (σ.getD u .undef) (valO σ y) n = some v ∧ H' = H
  | .mks _ e by_ z l c, σ, H, v, H' => mksV e by_ z (valO σ l) (valO σ c) = some v ∧ H' = H
  | .lit _ e n xs ss, σ, H, v, H' => litOk n (xs.map (valO σ)) = true ∧ v = .sl e (xs.map (valO σ)) ∧ H' = eatsH σ H ss
  | .call _ g sg xs ss, σ, H, v, H' => callR (Tb g) lim sg (xs.map (valO σ)) (eatsH σ H ss) v H'
  | .callv _ f g nc sg xs ss, σ, H, v, H' => ∃ caps, valO σ f = .fn g caps ∧ caps.length = nc ∧ callR (Tb g) lim sg (xs.map (valO σ) ++ caps) (eatsH σ H ss) v H'
  | .mkfn _ g xs, σ, H, v, H' => isRefs (xs.map (valO σ)) = true ∧ v = .fn g (xs.map (valO σ)) ∧ H' = H
  | .sidx _ x i, σ, H, v, H' => sidxV (valO σ x) (valO σ i) = some v ∧ H' = H
  | .ssl _ x none none, σ, H, v, H' => (∃ b, valO σ x = .str b ∧ v = .str b) ∧ H' = H
  | _, _, _, _, _ => False

/-- The contracts of the functions called. -/
def Known (P : Program) (E : Env) (Tb : Nat → Rel) : Prop :=
  (∀ g sg, E.sig g = some sg → SpecR P g sg (Tb g)) ∧ (∀ t g sg nc, E.vsig t = some (g, sg, nc) → SpecR P g sg (Tb g))

section
variable {X : Cx} {Γ : List G} {s : S} {L0 : Nat → Lab} {w0 : World} {K : KV} {o : Oper} {Q : Exit → Act → World → Prop} {E : Env} {Tb : Nat → Rel} {cop : COp} {Γ' : List G} {v : PV} {H' : Boxes}

theorem optK_mk {x : Option PV} {K : PV → Prop} {v : PV} (h : x = some v) (hk : K v) : optK x K := by rw [h]; exact hk
theorem isBoolTy_eq {P : Program} {t : TypeId} (h : isBoolTy P t = true) : P.underlying t = some .bool := by
  unfold isBoolTy at h; split at h
  · assumption
  · cases h
theorem isStrTy_eq {P : Program} {t : TypeId} (h : isStrTy P t = true) : P.underlying t = some .string := by
  unfold isStrTy at h; split at h
  · assumption
  · cases h
theorem isSlTy_eq {P : Program} {t : TypeId} (h : isSlTy P t = true) : ∃ e, P.underlying t = some (.slice e) := by
  unfold isSlTy at h; split at h
  · exact ⟨_, by assumption⟩
  · cases h
theorem isNilC_eq {x : Operand} (h : isNilC x = true) : x = .const (.slice none 0 0) := by
  unfold isNilC at h; split at h
  · rfl
  · cases h
theorem negOf_eq {op : BinOp} {neg : Bool} (h : negOf op = some neg) : op = if neg then .neq else .eql := by
  unfold negOf at h; split at h <;> simp at h <;> subst h <;> rfl

theorem elabBin_sound {d : Nat} {op : BinOp} {T yt : TypeId} {x y : Operand} (hE : E.P = X.P) (he : elabBin E Γ d op T x y = some (cop, Γ')) (h : Sim X Γ s) (f : Fr X L0 w0 s.L s.w) (hd : d < Γ.length) (ho : o.dst = some d) (hop : o.op = .binOp op T x y yt)
    (hr : cop.run Tb X.lim s.σ s.H v H') (hk : K (setD s.σ cop.dst v) H') : o.wp X.P s.a s.w (Good X Γ' L0 w0 K) Q := by
  have bin : ∀ {a : COp × List G}, (if fl2 Γ x y = true then some (COp.bin d op x y, flG d Γ) else none) = some a → a = (cop, Γ') → o.wp X.P s.a s.w (Good X Γ' L0 w0 K) Q := by
    intro a ha haa
    subst haa
    split at ha
    · rename_i hfl
      simp only [Option.some.injEq, Prod.mk.injEq] at ha
      obtain ⟨rfl, rfl⟩ := ha
      simp only [fl2, Bool.and_eq_true, beq_iff_eq] at hfl
      obtain ⟨hr1, rfl⟩ := hr
      exact bin_sound h f hd ho hop hfl.1 hfl.2 (optK_mk hr1 hk)
    · cases ha
  unfold elabBin at he
  rw [hE] at he
  split at he
  · rename_i neg hneg
    split at he
    · rename_i hnil
      split at he
      · rename_i hc
        simp only [Option.some.injEq, Prod.mk.injEq] at he
        obtain ⟨rfl, rfl⟩ := he
        obtain ⟨hr1, rfl⟩ := hr
        have := isNilC_eq hnil
        subst this
        exact isnil_sound h f hd ho hop hc.2 (isSlTy_eq hc.1) (negOf_eq hneg) (optK_mk hr1 hk)
      · cases he
    · split at he
      · rename_i hb
        split at he
        · rename_i hfl
          simp only [Option.some.injEq, Prod.mk.injEq] at he
          obtain ⟨rfl, rfl⟩ := he
          obtain ⟨hr1, rfl⟩ := hr
          simp only [fl2, Bool.and_eq_true, beq_iff_eq] at hfl
          exact beq_sound h f hd ho hop hfl.1 hfl.2 (isBoolTy_eq hb) (negOf_eq hneg) (optK_mk hr1 hk)
        · cases he
      · exact bin he rfl
  · exact bin he rfl

theorem callOp_sound {c : Call} {d : Option Nat} (hE : E.P = X.P) (hT : Known X.P E Tb) (he : elabCallOp E Γ d c = some (cop, Γ')) (h : Sim X Γ s) (f : Fr X L0 w0 s.L s.w) (hd : ∀ d', d = some d' → d' < Γ.length) (ho : o.dst = d) (hop : o.op = .call c)
    (hr : cop.run Tb X.lim s.σ s.H v H') (hk : K (setD s.σ cop.dst v) H') : o.wp X.P s.a s.w (Good X Γ' L0 w0 K) Q := by
  obtain ⟨callee, args, ts⟩ := c
  unfold elabCallOp at he
  rw [hE] at he
  simp only at he
  split at he
  · -- len
    rename_i x d hargs
    have ha : args = #[x] := by apply Array.ext'; simpa using hargs
    subst ha
    split at he
    · rename_i t ht
      split at he
      · rename_i hdat
        split at he
        · rename_i hs
          simp only [Option.some.injEq, Prod.mk.injEq] at he
          obtain ⟨rfl, rfl⟩ := he
          obtain ⟨hr1, rfl⟩ := hr
          exact len_sound (str := true) h f (hd d rfl) ho hop ht hdat (isStrTy_eq hs) (optK_mk hr1 hk)
        · split at he
          · rename_i hs
            simp only [Option.some.injEq, Prod.mk.injEq] at he
            obtain ⟨rfl, rfl⟩ := he
            obtain ⟨hr1, rfl⟩ := hr
            exact len_sound (str := false) h f (hd d rfl) ho hop ht hdat (isSlTy_eq hs) (optK_mk hr1 hk)
          · cases he
      · cases he
    · cases he
  · rename_i x y d hargs
    have ha : args = #[x, y] := by apply Array.ext'; simpa using hargs
    subst ha
    split at he
    · rename_i hfl
      simp only [Option.some.injEq, Prod.mk.injEq] at he
      obtain ⟨rfl, rfl⟩ := he
      obtain ⟨hr1, rfl⟩ := hr
      simp only [fl2, Bool.and_eq_true, beq_iff_eq] at hfl
      exact mm_sound (mx := true) h f (hd d rfl) ho hop hfl.1 hfl.2 (optK_mk hr1 hk)
    · cases he
  · rename_i x y d hargs
    have ha : args = #[x, y] := by apply Array.ext'; simpa using hargs
    subst ha
    split at he
    · rename_i hfl
      simp only [Option.some.injEq, Prod.mk.injEq] at he
      obtain ⟨rfl, rfl⟩ := he
      obtain ⟨hr1, rfl⟩ := hr
      simp only [fl2, Bool.and_eq_true, beq_iff_eq] at hfl
      exact mm_sound (mx := false) h f (hd d rfl) ho hop hfl.1 hfl.2 (optK_mk hr1 hk)
    · cases he
  · rename_i g
    split at he
    · rename_i sg hsg
      split at he
      · rename_i ss Γ2 hc
        simp only [Option.some.injEq, Prod.mk.injEq] at he
        obtain ⟨rfl, rfl⟩ := he
        obtain ⟨hr1, rs, H2, hR, rfl, rfl⟩ := hr
        exact call_sound (hT.1 g sg hsg) hc h f ho hop ⟨hr1, rs, H2, hR, hk⟩
      · cases he
    · cases he
  · rename_i t
    split at he
    · rename_i g sg nc hsg
      split at he
      · rename_i hkd
        split at he
        · rename_i ss Γ2 hc
          simp only [Option.some.injEq, Prod.mk.injEq] at he
          obtain ⟨rfl, rfl⟩ := he
          obtain ⟨caps, hf, hcl, hr1, rs, H2, hR, rfl, rfl⟩ := hr
          exact callv_sound (hT.2 t g sg nc hsg) hc (by simpa using hkd) h f ho hop ⟨caps, hf, hcl, hr1, rs, H2, hR, hk⟩
        · cases he
      · cases he
    · cases he
  · cases he

theorem elabCopy_out {asg : Bool} {d : Nat} {x : Operand} (he : elabCopy asg E Γ d x = some (cop, Γ')) : (∃ src, cop = .take d x src) ∨ cop = .copy d x := by
  unfold elabCopy at he
  simp only at he
  repeat' split at he
  all_goals first
    | (simp only [Option.some.injEq, Prod.mk.injEq] at he; exact .inr he.1.symm)
    | (simp only [Option.some.injEq, Prod.mk.injEq] at he; exact .inl ⟨_, he.1.symm⟩)
    | cases he

theorem elabCopy_sound {asg : Bool} {d : Nat} {x : Operand} (he : elabCopy asg E Γ d x = some (cop, Γ')) (h : Sim X Γ s) (f : Fr X L0 w0 s.L s.w) (hd : d < Γ.length) (ho : o.dst = some d) (hop : ∀ ρ, execOp ρ o = pure (.value (ρ x)))
    (hr : cop.run Tb X.lim s.σ s.H v H') (hk : K (setD s.σ cop.dst v) H') : o.wp X.P s.a s.w (Good X Γ' L0 w0 K) Q := by
  refine copy_sound he hd ho hop h f ?_
  rcases elabCopy_out he with ⟨src, rfl⟩ | rfl
  · obtain ⟨h1, rfl, rfl⟩ := hr
    exact .inl ⟨src, rfl, h1, hk⟩
  · obtain ⟨rfl, rfl⟩ := hr
    exact .inr ⟨rfl, hk⟩

theorem op_sound (hE : E.P = X.P) (hT : Known X.P E Tb) (he : elabOp E Γ o = some (cop, Γ')) (h : Sim X Γ s) (f : Fr X L0 w0 s.L s.w)
    (hr : cop.run Tb X.lim s.σ s.H v H') (hk : K (setD s.σ cop.dst v) H') : o.wp X.P s.a s.w (Good X Γ' L0 w0 K) Q := by
  obtain ⟨dst, op, type, pos, after, guard⟩ := o
  unfold elabOp at he
  simp only at he
  split at he
  · rename_i d
    split at he
    · rename_i hd
      split at he
      · exact elabCopy_sound he h f hd rfl (fun ρ => rfl) hr hk
      · exact elabCopy_sound he h f hd rfl (fun ρ => rfl) hr hk
      · rename_i c a b
        split at he
        · rename_i hfl
          simp only [Option.some.injEq, Prod.mk.injEq] at he
          obtain ⟨rfl, rfl⟩ := he
          simp only [fl2, Bool.and_eq_true, beq_iff_eq] at hfl
          obtain ⟨⟨t, h1, rfl, h3⟩, rfl⟩ := hr
          refine pick_sound h f hd rfl rfl hfl.1 hfl.2.1 hfl.2.2 ?_
          rw [h1]
          show (t = true → _ ∧ _) ∧ (t = false → _ ∧ _)
          refine ⟨fun ht => ?_, fun ht => ?_⟩ <;> subst ht <;> exact ⟨h3, hk⟩
        · cases he
      · rename_i T
        refine alloc_sound hE he h f hd rfl rfl ?_
        obtain ⟨ck, zs, rfl⟩ : ∃ ck zs, cop = .alloc d ck zs := by
          unfold elabAlloc at he
          split at he
          · cases he
          · simp only at he
            split at he
            · split at he
              · cases he
              · simp only [Option.some.injEq, Prod.mk.injEq] at he; exact ⟨_, _, he.1.symm⟩
            · cases he
        obtain ⟨rfl, rfl⟩ := hr
        exact ⟨ck, zs, rfl, hk⟩
      · rename_i T x
        refine box_sound he h f hd rfl rfl ?_
        obtain ⟨ck, src, rfl⟩ : ∃ ck src, cop = .box d ck x src := by
          unfold elabBox at he
          split at he
          · simp only [Option.some.injEq, Prod.mk.injEq] at he; exact ⟨_, _, he.1.symm⟩
          · cases he
          · cases he
          · cases he
          · cases he
          · simp only at he
            split at he
            · cases he
            · split at he
              · simp only [Option.some.injEq, Prod.mk.injEq] at he; exact ⟨_, _, he.1.symm⟩
              · cases he
        obtain ⟨h1, rfl, rfl⟩ := hr
        exact ⟨ck, src, rfl, h1, hk⟩
      · rename_i T n ps
        refine lit_sound hE he h f hd rfl rfl ?_
        obtain ⟨e, n', xs, ss, rfl⟩ : ∃ e n' xs ss, cop = .lit d e n' xs ss := by
          unfold elabLit at he
          split at he
          · split at he
            · split at he
              · simp only [Option.some.injEq, Prod.mk.injEq] at he; exact ⟨_, _, _, _, he.1.symm⟩
              · cases he
            · cases he
          · cases he
        obtain ⟨h1, rfl, rfl⟩ := hr
        exact ⟨e, n', xs, ss, rfl, h1, hk⟩
      · rename_i T u
        split at he
        · refine loadE_sound hE he h f hd rfl rfl ?_
          obtain ⟨t, u', n, fl, rfl⟩ : ∃ t u n fl, cop = .loadE d t u n fl := by
            unfold elabLoadE at he
            split at he
            · split at he
              · split at he
                · simp only [Option.some.injEq, Prod.mk.injEq] at he; exact ⟨_, _, _, _, he.1.symm⟩
                · cases he
              · split at he
                · split at he
                  · cases he
                  · simp only [Option.some.injEq, Prod.mk.injEq] at he; exact ⟨_, _, _, _, he.1.symm⟩
                · simp only [Option.some.injEq, Prod.mk.injEq] at he; exact ⟨_, _, _, _, he.1.symm⟩
                · cases he
            · cases he
          obtain ⟨⟨h1, h2⟩, rfl⟩ := hr
          exact ⟨t, u', n, fl, rfl, optK_mk h1 ⟨h2, hk⟩⟩
        · refine loadB_sound hE he h f hd rfl rfl ?_
          obtain ⟨n, fl, rfl⟩ : ∃ n fl, cop = .loadB d u n fl := by
            unfold elabLoadB at he
            split at he
            · split at he
              · simp only [Option.some.injEq, Prod.mk.injEq] at he; exact ⟨_, _, he.1.symm⟩
              · split at he
                · split at he
                  · cases he
                  · simp only [Option.some.injEq, Prod.mk.injEq] at he; exact ⟨_, _, he.1.symm⟩
                · cases he
            · cases he
          obtain ⟨⟨h1, h2⟩, rfl⟩ := hr
          exact ⟨n, fl, rfl, optK_mk h1 ⟨h2, hk⟩⟩
      · rename_i u
        split at he
        · rename_i ck m hkd
          simp only [Option.some.injEq, Prod.mk.injEq] at he
          obtain ⟨rfl, rfl⟩ := he
          obtain ⟨h1, rfl, rfl⟩ := hr
          exact nilCheck_sound h f hd rfl rfl hkd h1 hk
        · cases he
      · exact elabBin_sound hE he h f hd rfl rfl hr hk
      · rename_i op T x
        split at he
        · rename_i hfl
          simp only [Option.some.injEq, Prod.mk.injEq] at he
          obtain ⟨rfl, rfl⟩ := he
          obtain ⟨hr1, rfl⟩ := hr
          exact un_sound h f hd rfl rfl (by simpa using hfl) (optK_mk hr1 hk)
        · cases he
      · rename_i T T' x
        unfold elabConv at he
        rw [hE] at he
        split at he
        · rename_i hfl
          split at he
          · rename_i ht ht'
            simp only [Option.some.injEq, Prod.mk.injEq] at he
            obtain ⟨rfl, rfl⟩ := he
            obtain ⟨⟨b, h1, rfl⟩, rfl⟩ := hr
            refine convStr_sound h f hd rfl rfl (by simpa using hfl) ht ht' ?_
            rw [h1]; exact hk
          · rename_i k ht ht'
            simp only [Option.some.injEq, Prod.mk.injEq] at he
            obtain ⟨rfl, rfl⟩ := he
            obtain ⟨hr1, rfl⟩ := hr
            exact conv_sound h f hd rfl rfl (by simpa using hfl) (by rw [ht]; rfl) ht' (optK_mk hr1 hk)
          · cases he
        · cases he
      · rename_i fn first caps
        refine mkfn_sound he h f hd rfl rfl ?_
        obtain ⟨g, xs, rfl⟩ : ∃ g xs, cop = .mkfn d g xs := by
          unfold elabMkfn at he
          split at he
          · split at he
            · simp only [Option.some.injEq, Prod.mk.injEq] at he; exact ⟨_, _, he.1.symm⟩
            · cases he
          · cases he
        obtain ⟨h1, rfl, rfl⟩ := hr
        exact ⟨g, xs, rfl, h1, hk⟩
      · rename_i T l c
        refine mks_sound hE he h f hd rfl rfl ?_
        obtain ⟨e, b, z, rfl⟩ : ∃ e b z, cop = .mks d e b z l c := by
          unfold elabMks at he
          split at he
          · split at he
            · split at he
              · split at he
                · simp only [Option.some.injEq, Prod.mk.injEq] at he; exact ⟨_, _, _, he.1.symm⟩
                · cases he
              · cases he
            · cases he
          · cases he
        obtain ⟨h1, rfl⟩ := hr
        exact ⟨e, b, z, rfl, optK_mk h1 hk⟩
      · rename_i St u fi
        refine fadd_sound hE he h f hd rfl rfl ?_
        obtain ⟨off, rfl⟩ : ∃ off, cop = .fadd d u off := by
          unfold elabFadd at he
          split at he
          · cases he
          · split at he
            · simp only [Option.some.injEq, Prod.mk.injEq] at he; exact ⟨_, he.1.symm⟩
            · split at he
              · cases he
              · simp only [Option.some.injEq, Prod.mk.injEq] at he; exact ⟨_, he.1.symm⟩
            · cases he
        obtain ⟨h1, rfl⟩ := hr
        exact ⟨off, rfl, optK_mk h1 hk⟩
      · rename_i T x i
        refine iadd_sound hE he h f hd rfl rfl ?_
        obtain ⟨t, e, rfl⟩ : ∃ t e, cop = .iadd d t e i := by
          unfold elabIadd at he
          split at he
          · split at he
            · simp only [Option.some.injEq, Prod.mk.injEq] at he; exact ⟨_, _, he.1.symm⟩
            · cases he
          · cases he
        obtain ⟨h1, rfl⟩ := hr
        exact ⟨t, e, rfl, optK_mk h1 hk⟩
      · rename_i T x i
        split at he
        · rename_i hc
          simp only [Option.some.injEq, Prod.mk.injEq] at he
          obtain ⟨rfl, rfl⟩ := he
          simp only [fl2, Bool.and_eq_true, beq_iff_eq] at hc
          obtain ⟨h1, rfl⟩ := hr
          exact sidx_sound h f hd rfl rfl hc.2.1 hc.2.2 (isStrTy_eq (by rw [← hE]; exact hc.1)) (optK_mk h1 hk)
        · cases he
      · exact callOp_sound hE hT he h f (fun d' hd' => by injection hd' with hd'; subst hd'; exact hd) rfl rfl hr hk
      · cases he
    · cases he
  · split at he
    · rename_i T u x
      split at he
      · refine storeE_sound hE he h f rfl rfl ?_
        obtain ⟨y, u', n, rfl⟩ : ∃ y u n, cop = .storeE y u n x := by
          unfold elabStoreE at he
          split at he
          · split at he
            · split at he
              · simp only [Option.some.injEq, Prod.mk.injEq] at he; exact ⟨_, _, _, he.1.symm⟩
              · cases he
            · cases he
          · cases he
        obtain ⟨h1, rfl⟩ := hr
        exact ⟨y, u', n, rfl, optK_mk h1 hk⟩
      · refine storeB_sound hE he h f rfl rfl ?_
        obtain ⟨n, src, rfl⟩ : ∃ n src, cop = .storeB u x n src := by
          unfold elabStoreB at he
          split at he
          · split at he
            · cases he
            · split at he
              · split at he
                · simp only [Option.some.injEq, Prod.mk.injEq] at he; exact ⟨_, _, he.1.symm⟩
                · cases he
              · split at he
                · cases he
                · split at he
                  · simp only [Option.some.injEq, Prod.mk.injEq] at he; exact ⟨_, _, he.1.symm⟩
                  · cases he
          · cases he
        obtain ⟨h1, h2, _⟩ := hr
        exact ⟨n, src, rfl, h1, H', h2, hk⟩
    · exact callOp_sound hE hT he h f (fun d' hd' => by cases hd') rfl rfl hr hk
    · cases he

end
end Go.Den
