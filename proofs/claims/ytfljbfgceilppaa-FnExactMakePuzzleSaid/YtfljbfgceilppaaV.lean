/- Each function that DoesFit reaches does what is told of it. Conditions: none. -/
import Derived.Test.YtfljbfgceilppaaDenC
import Derived.Test.YtfljbfgceilppaaK
set_option linter.unusedVariables false
set_option linter.unusedSimpArgs false
set_option linter.unnecessarySimpa false
set_option autoImplicit false
namespace Go.Den

/-- The slots of a frame of which something is known. -/
def slots (n : Nat) (l : List (Nat × PV)) : List PV := l.foldl (fun s p => s.set p.1 p.2) (List.replicate n .undef)

/-- A contract that asks for what is never there. -/
theorem specNone {P : Program} {g : Nat} {fn : Func} {sg : Sig} {R : Rel} (hf : P.funcs[g]? = some fn) (hname : (fn.name == "runtime.NumGoroutine") = false) (hb : fn.body.isNone = false) (hR : ∀ lim vs H rs H', ¬ R lim vs H rs H') : SpecR P g sg R :=
  ⟨⟨fn, hf, hname, hb⟩, fun _ _ _ _ _ _ _ _ ⟨_, _, h, _⟩ => absurd h (hR _ _ _ _ _)⟩
/-- Contracts by a number. -/
theorem specEx {P : Program} {g : Nat} {sg : Sig} {R : Nat → Rel} (h : ∀ n, SpecR P g sg (R n)) : SpecR P g sg (fun lim vs H rs H' => ∃ n, R n lim vs H rs H') :=
  ⟨(h 0).1, fun X s K hX hs h0 hp hm ⟨rs, H', ⟨n, hR⟩, hK⟩ => (h n).2 X s K hX hs h0 hp hm ⟨rs, H', hR, hK⟩⟩
/-- A variable in memory that holds a number. -/
def Num (H : Boxes) (r : Nat) (n : Int) : Prop := ∃ ck, H[r]? = some (ck, [I n]) ∧ ck ≠ .fn
/-- Numbers so few and small that no sum of them overflows. -/
def Small (ns : List Int) : Prop := ns.length ≤ 1048576 ∧ ∀ n ∈ ns, -1048576 ≤ n ∧ n ≤ 1048576
theorem Small.sum {ns : List Int} (h : Small ns) (i : Nat) : -1099511627776 ≤ (ns.take i).sum ∧ (ns.take i).sum ≤ 1099511627776 := by
  have key : ∀ l : List Int, (∀ n ∈ l, -1048576 ≤ n ∧ n ≤ 1048576) → -1048576 * (l.length : Int) ≤ l.sum ∧ l.sum ≤ 1048576 * (l.length : Int) := by
    intro l
    induction l with
    | nil => intro _; simp
    | cons a l ih =>
      intro hl
      have := hl a (by simp)
      have := ih fun n hn => hl n (by simp [hn])
      simp only [List.sum_cons, List.length_cons]
      omega
  have := key (ns.take i) fun n hn => h.2 n (List.mem_of_mem_take hn)
  have hl : (ns.take i).length ≤ 1048576 := by rw [List.length_take]; have := h.1; omega
  omega
theorem rowOf_sl {e : Nat} {xs : List PV} : rowOf e (.sl e xs) = some xs := by simp [rowOf]
theorem rowOf_nil {e : Nat} : rowOf e .nil = some [] := rfl
theorem Sl.row {α : Type} {e : Nat} {f : α → PV} {v : PV} {xs : List α} (h : Sl e f v xs) : rowOf e v = some (xs.map f) := by
  rcases h.1 with rfl | ⟨rfl, rfl⟩
  · exact rowOf_sl
  · rfl
/-- A row of numbers behind a row. -/
theorem Sl.app0 {e : Nat} {v : PV} {ns : List Int} {xs : List Int} (h : Sl e I v ns) (hb : xs.length + ns.length ≤ 17592186044416) : appV e 8 true (.sl e (xs.map I)) v = some (.sl e ((xs ++ ns).map I)) := by
  unfold appV
  rw [rowOf_sl, h.row]
  simp only
  rw [if_pos]
  · simp [appRes]
  · refine ⟨by simp; omega, by simp; omega, by simp, by simp⟩

theorem Sl.app1 {e : Nat} {v w : PV} {ns xs : List Int} (hv : Sl e I v xs) (h : Sl e I w ns) (hn : ns ≠ []) (hb : xs.length + ns.length ≤ 17592186044416) : appV e 8 true v w = some (.sl e ((xs ++ ns).map I)) := by
  rcases hv.1 with rfl | ⟨rfl, rfl⟩
  · exact h.app0 hb
  · unfold appV
    rw [rowOf_nil, h.row]
    simp only
    rw [if_pos]
    · cases ns with
      | nil => exact absurd rfl hn
      | cons a ns => simp [appRes]
    · simp at hb; refine ⟨by simp; omega, by simp; omega, by simp, by simp⟩
/-! ### Puzzles, in plain words -/
structure Cl where
  k : Int
  a : Int
  b : Int
  c : Int
  deriving DecidableEq
def pC (x : Cl) : PV := .agg [I x.k, I x.a, I x.b, I x.c]
@[simp] theorem pC_cells (x : Cl) : (pC x).cells = [I x.k, I x.a, I x.b, I x.c] := rfl
@[simp] theorem pC_undef (x : Cl) : (pC x).isUndef = false := rfl
@[simp] theorem pC_flat (x : Cl) : (pC x).isFlat = true := by simp [pC]
@[simp] theorem pC_nOk (x : Cl) : nOk (some 4) (pC x) = true := rfl
theorem pC_eq (x : Cl) : .agg [I x.k, I x.a, I x.b, I x.c] = pC x := rfl

def clueOk (n : Int) (x : Cl) : Bool :=
  if x.k = 0 then (x.a == 0 && x.b == 0) && inR 0 24 x.c
  else if x.k = 1 then (inR 0 (n - 1) x.a && inR 0 (n - 1) x.b && x.a != x.b) && inR 0 1 x.c
  else if x.k = 2 then inR 6 24 x.a && x.b == 0 && inR 1 4 x.c
  else if x.k = 3 then inR 1 24 x.a && x.b == 0 && inR 0 1 x.c
  else if x.k = 4 then (inR 0 (n - 1) x.a && inR 0 (n - 1) x.b && x.a != x.b) && inR 1 36 x.c
  else if x.k = 5 then (x.a == 0 && x.b == 0) && inR 1 6 x.c
  else false
def hid (xs : List Int) : Bool := inR 2 4 xs.length && xs.all (inR 1 6)
def getI (xs : List Int) (a : Int) : Int := xs.getD a.toNat 0
def maxL (xs : List Int) : Int := xs.foldl max 0
def subS : List Int → Int → Bool
  | [], s => s == 0
  | x :: xs, s => subS xs (s - x) || subS xs s
/-- The loads when one more thing may come. -/
def nextL (loads : List Int) (b : Nat) : List Int := if b = loads.length then loads ++ [0] else loads
/-- All plans that go on from one, in order. -/
def plansL (room : Int) (most : Nat) : List Int → List Int → List Int → List (List Int)
  | [], plan, _ => [plan]
  | x :: rest, plan, loads => (List.range (min (loads.length + 1) most)).flatMap fun b =>
      if (nextL loads b).getD b 0 + x ≤ room then plansL room most rest (plan ++ [(b : Int)]) ((nextL loads b).set b ((nextL loads b).getD b 0 + x)) else []
theorem plansL_cons (room : Int) (most : Nat) (x : Int) (rest plan loads : List Int) : plansL room most (x :: rest) plan loads = (List.range (min (loads.length + 1) most)).flatMap fun b =>
      if (nextL loads b).getD b 0 + x ≤ room then plansL room most rest (plan ++ [(b : Int)]) ((nextL loads b).set b ((nextL loads b).getD b 0 + x)) else [] := rfl
theorem nextL_len {loads : List Int} {b : Nat} (h : b ≤ loads.length) : b < (nextL loads b).length ∧ (nextL loads b).length ≤ loads.length + 1 := by
  unfold nextL; split <;> simp <;> omega
theorem plansL_len {room : Int} {most : Nat} : ∀ (rest plan loads : List Int), loads.length + rest.length ≤ 16 → (plansL room most rest plan loads).length ≤ 16 ^ rest.length
  | [], _, _, _ => by simp [plansL]
  | x :: rest, plan, loads, h => by
    rw [plansL_cons, List.length_flatMap]
    simp only [List.length_cons] at h ⊢
    have key : ∀ l : List Nat, (∀ b ∈ l, b ≤ loads.length) → (l.map fun b => (if (nextL loads b).getD b 0 + x ≤ room then plansL room most rest (plan ++ [(b : Int)]) ((nextL loads b).set b ((nextL loads b).getD b 0 + x)) else []).length).sum ≤ l.length * 16 ^ rest.length := by
      intro l hl
      induction l with
      | nil => simp
      | cons b l ih =>
        have h1 := ih fun c hc => hl c (by simp [hc])
        have h2 : (if (nextL loads b).getD b 0 + x ≤ room then plansL room most rest (plan ++ [(b : Int)]) ((nextL loads b).set b ((nextL loads b).getD b 0 + x)) else []).length ≤ 16 ^ rest.length := by
          split
          · have := (nextL_len (hl b (by simp))).2
            exact plansL_len rest _ _ (by rw [List.length_set]; omega)
          · exact Nat.zero_le _
        simp only [List.map_cons, List.sum_cons, List.length_cons]
        rw [Nat.add_mul]; omega
    have := key (List.range (min (loads.length + 1) most)) fun b hb => by have := List.mem_range.1 hb; omega
    refine Nat.le_trans this ?_
    rw [List.length_range, Nat.pow_succ, Nat.mul_comm]
    exact Nat.mul_le_mul_left _ (by omega)
/-- The first one, as a slice. -/
def firstV (e : Nat) (l : List (List Int)) : PV := match l with
  | [] => .nil
  | p :: _ => .sl e (p.map I)
@[simp] theorem firstV_undef {e : Nat} {l : List (List Int)} : (firstV e l).isUndef = false := by cases l <;> rfl
@[simp] theorem firstV_cells {e : Nat} {l : List (List Int)} : (firstV e l).cells = [firstV e l] := by cases l <;> rfl
@[simp] theorem firstV_def1 {e : Nat} {l : List (List Int)} : (firstV e l).def1 = true := by cases l <;> rfl
theorem firstV_app {e : Nat} {l m : List (List Int)} : firstV e (l ++ m) = if l = [] then firstV e m else firstV e l := by cases l <;> simp [firstV]
def few (room : Int) (xs : List Int) : Nat := ((List.range (xs.length + 1)).find? fun m => !(plansL room m xs [] []).isEmpty).getD 0
theorem shr_I {m i : Nat} (h : i < 64) : binV .shr (.int .i64 m) (.int .i64 i) = some (.int .i64 ((m / 2 ^ i : Nat) : Int)) := by
  have e : min i 64 = i := by omega
  simp only [binV, IntKind.bits, Int.toNat_natCast, e]
  rw [if_neg (by omega), Int.fdiv_eq_ediv_of_nonneg _ (Int.le_of_lt (Int.pow_pos (by decide)))]
  simp
theorem and_I {q : Nat} (_ : q < 9223372036854775808) : binV .and (.int .i64 q) (.int .i64 1) = some (.int .i64 ((q % 2 : Nat) : Int)) := by
  have e : (BitVec.ofInt 64 (q : Int) &&& BitVec.ofInt 64 1).toNat = q % 2 := by
    rw [BitVec.toNat_and]
    simp [Nat.and_one_is_mod]
  have e2 : binV .and (.int .i64 q) (.int .i64 1) = some (.int .i64 (IntKind.i64.wrap ((BitVec.ofInt 64 (q : Int) &&& BitVec.ofInt 64 1).toNat : Nat))) := rfl
  rw [e2, e, wrap_id (by omega) (by omega)]
theorem shl_I {i : Nat} (h : i < 62) : binV .shl (.int .i64 1) (.int .i64 i) = some (.int .i64 ((2 ^ i : Nat) : Int)) := by
  have e : min i 64 = i := by omega
  have hp : 2 ^ i ≤ 2 ^ 61 := Nat.pow_le_pow_right (by omega) (by omega)
  have e2 : binV .shl (.int .i64 1) (.int .i64 i) = if (i : Int) < 0 then none else some (.int .i64 (IntKind.i64.wrap (1 * 2 ^ min (i : Int).toNat 64))) := rfl
  have hp2 : (2 : Nat) ^ i ≤ 2305843009213693952 := hp
  rw [e2, if_neg (by omega), Int.toNat_natCast, e, Int.one_mul, show (2 : Int) ^ i = ((2 ^ i : Nat) : Int) by simp]
  generalize 2 ^ i = p at hp2
  rw [wrap_id (by omega) (by omega)]
/-- What a set of things weighs. -/
def mS : List Int → Nat → Int
  | [], _ => 0
  | x :: xs, m => ((m % 2 : Nat) : Int) * x + mS xs (m / 2)
theorem mS_take : ∀ {xs : List Int} {i : Nat} (h : i < xs.length) {m : Nat}, mS (xs.take (i + 1)) m = mS (xs.take i) m + ((m / 2 ^ i % 2 : Nat) : Int) * xs[i]
  | x :: xs, 0, h, m => by simp [mS]
  | x :: xs, i + 1, h, m => by
    have := mS_take (xs := xs) (i := i) (by simpa using h) (m := m / 2)
    simp only [List.take_succ_cons, mS, List.getElem_cons_succ, this, Nat.div_div_eq_div_mul]
    rw [Nat.pow_succ, Nat.mul_comm 2]
    omega
theorem subS_mS : ∀ {xs : List Int} {s : Int}, subS xs s = true ↔ ∃ m, m < 2 ^ xs.length ∧ mS xs m = s
  | [], s => by
    simp only [subS, beq_iff_eq, List.length_nil, mS]
    exact ⟨fun h => ⟨0, by simp, h.symm⟩, fun ⟨m, _, h⟩ => h.symm⟩
  | x :: xs, s => by
    simp only [subS, Bool.or_eq_true, subS_mS (xs := xs), List.length_cons, mS, Nat.pow_succ]
    constructor
    · rintro (⟨m, h1, h2⟩ | ⟨m, h1, h2⟩)
      · refine ⟨2 * m + 1, by omega, ?_⟩
        rw [show (2 * m + 1) % 2 = 1 by omega, show (2 * m + 1) / 2 = m by omega, h2]; simp; omega
      · refine ⟨2 * m, by omega, ?_⟩
        rw [show (2 * m) % 2 = 0 by omega, show (2 * m) / 2 = m by omega, h2]; simp
    · rintro ⟨m, h1, h2⟩
      rcases Nat.mod_two_eq_zero_or_one m with h | h
      · right; exact ⟨m / 2, by omega, by rw [h] at h2; simpa using h2⟩
      · left; exact ⟨m / 2, by omega, by rw [h] at h2; simp at h2; omega⟩
theorem mS_zero : ∀ {xs : List Int}, mS xs 0 = 0
  | [] => rfl
  | x :: xs => by simp [mS, mS_zero (xs := xs)]
theorem mS_bound {B : Int} (hB : 0 ≤ B) : ∀ {xs : List Int} {m : Nat}, (∀ x ∈ xs, 0 ≤ x ∧ x ≤ B) → 0 ≤ mS xs m ∧ mS xs m ≤ B * xs.length
  | [], m, _ => by simp [mS]
  | x :: xs, m, h => by
    have h1 := h x (by simp)
    have h2 := mS_bound hB (m := m / 2) (xs := xs) fun y hy => h y (by simp [hy])
    simp only [mS, List.length_cons]
    have e : B * ((xs.length + 1 : Nat) : Int) = B * xs.length + B := by rw [Int.natCast_add, Int.mul_add]; simp
    rw [e]
    rcases Nat.mod_two_eq_zero_or_one m with h | h <;> rw [h] <;> simp <;> omega
theorem Sl.nil0 {α : Type} {e : Nat} {f : α → PV} : Sl e f .nil ([] : List α) := ⟨.inr ⟨rfl, rfl⟩, by simp⟩
theorem plansL_some {room : Int} {most : Nat} : ∀ {rest plan loads : List Int}, loads.length + rest.length ≤ most → (∀ x ∈ rest, x ≤ room) → plansL room most rest plan loads ≠ []
  | [], _, _, _, _ => by simp [plansL]
  | x :: rest, plan, loads, h, hx => by
    simp only [List.length_cons] at h
    rw [plansL_cons]
    intro he
    rw [List.flatMap_eq_nil_iff] at he
    have h1 := he loads.length (List.mem_range.2 (by omega))
    have e0 : (nextL loads loads.length).getD loads.length 0 = 0 := by simp [nextL, List.getD]
    rw [e0, if_pos (by have := hx x (by simp); omega)] at h1
    refine plansL_some ?_ (fun y hy => hx y (by simp [hy])) h1
    rw [List.length_set]
    have := (nextL_len (Nat.le_refl loads.length)).2
    omega
theorem few_eq {room : Int} {xs : List Int} {m : Nat} (hm : m ≤ xs.length) (h1 : plansL room m xs [] [] ≠ []) (h2 : ∀ k, k < m → plansL room k xs [] [] = []) : few room xs = m := by
  have : (List.range (xs.length + 1)).find? (fun m => !(plansL room m xs [] []).isEmpty) = some m := by
    rw [List.find?_eq_some_iff_getElem]
    refine ⟨by simpa using h1, m, by simp; omega, by simp, fun j hj => ?_⟩
    simp [h2 j hj]
  rw [few, this]; rfl
theorem plansL_mem {room : Int} {m : Nat} : ∀ {rest plan loads p : List Int}, p ∈ plansL room m rest plan loads → ∃ s, p = plan ++ s ∧ s.length = rest.length ∧ ∀ x ∈ s, 0 ≤ x ∧ x < m
  | [], plan, _, p, h => ⟨[], by simpa [plansL] using h, rfl, by simp⟩
  | x :: rest, plan, loads, p, h => by
    rw [plansL_cons, List.mem_flatMap] at h
    obtain ⟨b, hb, h⟩ := h
    have hb := List.mem_range.1 hb
    split at h
    · obtain ⟨s, h1, h2, h3⟩ := plansL_mem h
      refine ⟨(b : Int) :: s, by rw [h1]; simp, by simp [h2], ?_⟩
      intro y hy
      rcases List.mem_cons.1 hy with rfl | hy
      · omega
      · exact h3 y hy
    · cases h
theorem plansL_less {room : Int} {m k : Nat} : ∀ {rest plan loads p : List Int}, p ∈ plansL room m rest plan loads → (∀ x ∈ p, x < k) → p ∈ plansL room k rest plan loads
  | [], plan, _, p, h, _ => by simpa [plansL] using h
  | x :: rest, plan, loads, p, h, hk => by
    rw [plansL_cons, List.mem_flatMap] at h ⊢
    obtain ⟨b, hb, h⟩ := h
    have hb := List.mem_range.1 hb
    split at h
    · rename_i hle
      obtain ⟨s, h1, _, _⟩ := plansL_mem h
      have hbk := hk b (by rw [h1]; simp)
      exact ⟨b, List.mem_range.2 (by omega), by rw [if_pos hle]; exact plansL_less h hk⟩
    · cases h
theorem maxL_aux : ∀ {xs : List Int} {a : Int}, a ≤ xs.foldl max a ∧ (∀ x ∈ xs, x ≤ xs.foldl max a) ∧ (xs.foldl max a = a ∨ xs.foldl max a ∈ xs)
  | [], a => by simp
  | x :: xs, a => by
    obtain ⟨h1, h2, h3⟩ := maxL_aux (xs := xs) (a := max a x)
    simp only [List.foldl_cons]
    refine ⟨by omega, ?_, ?_⟩
    · intro y hy
      rcases List.mem_cons.1 hy with rfl | hy
      · omega
      · exact h2 y hy
    · rcases h3 with h3 | h3
      · rcases Int.le_total a x with h | h
        · right; rw [h3, show max a x = x by omega]; simp
        · left; rw [h3]; omega
      · right; simp [h3]
theorem few_max {room : Int} {xs : List Int} {p : List Int} {l : List (List Int)} {m : Nat} (hm : 1 ≤ m) (h : plansL room m xs [] [] = p :: l) (h2 : ∀ k, k < m → plansL room k xs [] [] = []) : maxL p + 1 = m := by
  have hp : p ∈ plansL room m xs [] [] := by rw [h]; simp
  obtain ⟨s, h3, _, h4⟩ := plansL_mem hp
  simp at h3; subst h3
  obtain ⟨a1, a2, a3⟩ := maxL_aux (xs := p) (a := 0)
  have hlt : maxL p < m := by
    rcases a3 with h | h
    · unfold maxL; rw [h]; omega
    · exact (h4 _ h).2
  rcases Int.lt_or_le (maxL p + 1) m with h5 | h5
  · have h6 : p ∈ plansL room (m - 1) xs [] [] := plansL_less hp fun x hx => by have := a2 x hx; unfold maxL at h5; omega
    rw [h2 (m - 1) (by omega)] at h6; cases h6
  · omega
theorem flatMap_first {α : Type} {F : Nat → List α} {b : Nat} {p : α} {l : List α} (h : ∀ k, k < b → F k = []) (hb : F b = p :: l) : ∀ {M : Nat}, b < M → ∃ l', (List.range M).flatMap F = p :: l'
  | 0, hM => by omega
  | M + 1, hM => by
    rw [List.range_succ, List.flatMap_append]
    by_cases hlt : b < M
    · obtain ⟨l', e⟩ := flatMap_first h hb hlt
      rw [e]; exact ⟨_, rfl⟩
    · have : b = M := by omega
      subst this
      have e : (List.range b).flatMap F = [] := by
        rw [List.flatMap_eq_nil_iff]
        intro k hk
        exact h k (List.mem_range.1 hk)
      rw [e]; simp [hb]
theorem few_spec {room : Int} {xs : List Int} (hne : xs ≠ []) (hx : ∀ x ∈ xs, x ≤ room) : 1 ≤ few room xs ∧ few room xs ≤ xs.length ∧ plansL room (few room xs) xs [] [] ≠ [] ∧ ∀ k, k < few room xs → plansL room k xs [] [] = [] := by
  have h0 : plansL room 0 xs [] [] = [] := by
    cases xs with
    | nil => exact absurd rfl hne
    | cons x xs => simp [plansL_cons]
  have hl : plansL room xs.length xs [] [] ≠ [] := plansL_some (by simp) hx
  have key : ∀ m, m ≤ xs.length → plansL room m xs [] [] ≠ [] → ∃ m', m' ≤ m ∧ plansL room m' xs [] [] ≠ [] ∧ ∀ k, k < m' → plansL room k xs [] [] = [] := by
    intro m
    induction m using Nat.strongRecOn with
    | _ m ih =>
      intro hm hp
      by_cases hall : ∀ k, k < m → plansL room k xs [] [] = []
      · exact ⟨m, Nat.le_refl _, hp, hall⟩
      · simp only [Classical.not_forall] at hall
        obtain ⟨k, hk, hk2⟩ := hall
        obtain ⟨m', h1, h2, h3⟩ := ih k hk (by omega) hk2
        exact ⟨m', by omega, h2, h3⟩
  obtain ⟨m, h1, h2, h3⟩ := key _ (Nat.le_refl _) hl
  rw [few_eq h1 h2 h3]
  refine ⟨?_, h1, h2, h3⟩
  rcases Nat.eq_zero_or_pos m with rfl | h
  · exact absurd h0 h2
  · exact h
/-- The search for things that fill a room. -/
def loopF : List Int → Nat → Int → List Int → Option (List Int)
  | [], _, _, _ => none
  | x :: rest, i, left, list => if left < x then loopF rest (i + 1) left list else
      match (if left - x = 0 then some (list ++ [(i : Int)]) else loopF rest (i + 1) (left - x) (list ++ [(i : Int)])) with
      | some l => some l
      | none => loopF rest (i + 1) left list
def fillF (rest : List Int) (i : Nat) (left : Int) (list : List Int) : Option (List Int) := if left = 0 then some list else loopF rest i left list
theorem loopF_cons {x : Int} {rest : List Int} {i : Nat} {left : Int} {list : List Int} : loopF (x :: rest) i left list = if left < x then loopF rest (i + 1) left list else
      match fillF rest (i + 1) (left - x) (list ++ [(i : Int)]) with
      | some l => some l
      | none => loopF rest (i + 1) left list := rfl
theorem subS_neg : ∀ {xs : List Int} {s : Int}, (∀ x ∈ xs, 0 ≤ x) → s < 0 → subS xs s = false
  | [], s, _, hs => by simp [subS]; omega
  | x :: xs, s, h, hs => by
    have := h x (by simp)
    simp only [subS, Bool.or_eq_false_iff]
    exact ⟨subS_neg (fun y hy => h y (by simp [hy])) (by omega), subS_neg (fun y hy => h y (by simp [hy])) hs⟩
theorem subS_zero : ∀ {xs : List Int}, subS xs 0 = true
  | [] => rfl
  | x :: xs => by simp [subS, subS_zero (xs := xs)]
theorem loopF_ok : ∀ {xs : List Int} {i : Nat} {left : Int} {list : List Int}, (∀ x ∈ xs, 0 ≤ x) → 0 < left → (loopF xs i left list).isSome = subS xs left
  | [], i, left, list, _, hl => by simp [loopF, subS]; omega
  | x :: xs, i, left, list, h, hl => by
    have hx := h x (by simp)
    have hxs : ∀ y ∈ xs, 0 ≤ y := fun y hy => h y (by simp [hy])
    rw [loopF_cons, subS]
    have ih := loopF_ok (xs := xs) (i := i + 1) (left := left) (list := list) hxs hl
    split
    · have hn : subS xs (left - x) = false := subS_neg hxs (by omega)
      rw [ih, hn]; simp
    · unfold fillF
      by_cases h0 : left - x = 0
      · rw [if_pos h0, h0, subS_zero]; simp
      · rw [if_neg h0]
        have ih2 := loopF_ok (xs := xs) (i := i + 1) (left := left - x) (list := list ++ [(i : Int)]) hxs (by omega)
        cases hq : loopF xs (i + 1) (left - x) (list ++ [(i : Int)]) with
        | none => rw [hq] at ih2; rw [← ih2, ih]; simp
        | some l => rw [hq] at ih2; rw [← ih2]; simp
theorem fillF_ok {xs : List Int} {i : Nat} {left : Int} {list : List Int} (h : ∀ x ∈ xs, 0 ≤ x) (hl : 0 ≤ left) : (fillF xs i left list).isSome = subS xs left := by
  unfold fillF
  by_cases h0 : left = 0
  · rw [if_pos h0, h0, subS_zero]; rfl
  · rw [if_neg h0, loopF_ok h (by omega)]
def outV (e : Nat) (o : Option (List Int)) : PV := match o with
  | none => .nil
  | some l => .sl e (l.map I)
@[simp] theorem outV_undef {e : Nat} {o : Option (List Int)} : (outV e o).isUndef = false := by cases o <;> rfl
def tellV (k a b : Int) (xs : List Int) : Int :=
  if k = 0 then xs.sum else if k = 1 then (if getI xs b < getI xs a then 1 else 0) else if k = 2 then few a xs
  else if k = 3 then (if subS xs a then 1 else 0) else if k = 4 then getI xs a * getI xs b else maxL xs
def tellOk (k a b : Int) (xs : List Int) : Prop :=
  ((k = 1 ∨ k = 4) → 0 ≤ a ∧ a < xs.length ∧ 0 ≤ b ∧ b < xs.length) ∧ (k = 2 → 6 ≤ a ∧ a ≤ 24) ∧ (k = 3 → 1 ≤ a ∧ a ≤ 24)
theorem hid_spec {xs : List Int} (h : hid xs = true) : 2 ≤ xs.length ∧ xs.length ≤ 4 ∧ ∀ x ∈ xs, 1 ≤ x ∧ x ≤ 6 := by
  simp only [hid, inR, Bool.and_eq_true, decide_eq_true_eq, List.all_eq_true] at h
  refine ⟨by omega, by omega, fun x hx => h.2 x hx⟩
theorem hid_room {xs : List Int} {a : Int} (h : hid xs = true) (h1 : 6 ≤ a) (h2 : a ≤ 24) : (inR 1 9 xs.length && xs.all (inR 1 100) && inR (maxL xs) 1000 a) = true := by
  obtain ⟨h3, h4, h5⟩ := hid_spec h
  obtain ⟨a1, a2, a3⟩ := maxL_aux (xs := xs) (a := 0)
  have hm : maxL xs ≤ 6 := by
    rcases a3 with h | h
    · unfold maxL; omega
    · exact (h5 _ h).2
  simp only [inR, Bool.and_eq_true, decide_eq_true_eq, List.all_eq_true]
  exact ⟨⟨by omega, fun x hx => by have := h5 x hx; omega⟩, by omega⟩
theorem natIdx {a : Int} {n : Nat} (h1 : 0 ≤ a) (h2 : a < n) : ∃ i : Nat, i < n ∧ a = i := ⟨a.toNat, by omega, by omega⟩
theorem getI_nat {xs : List Int} {i : Nat} (h : i < xs.length) : getI xs i = xs[i] := by simp [getI, List.getD, h]
theorem clueOk_tell {x : Cl} {xs : List Int} (h : clueOk xs.length x = true) : tellOk x.k x.a x.b xs := by
  unfold clueOk at h
  refine ⟨fun hk => ?_, fun hk => ?_, fun hk => ?_⟩
  · rcases hk with hk | hk
    · rw [if_neg (by omega), if_pos hk] at h
      simp [inR] at h; omega
    · rw [if_neg (by omega), if_neg (by omega), if_neg (by omega), if_neg (by omega), if_pos hk] at h
      simp [inR] at h; omega
  · rw [if_neg (by omega), if_neg (by omega), if_pos hk] at h
    simp [inR] at h; omega
  · rw [if_neg (by omega), if_neg (by omega), if_neg (by omega), if_pos hk] at h
    simp [inR] at h; omega
def fitsC (x : Cl) (xs : List Int) : Bool := tellV x.k x.a x.b xs == x.c
end Go.Den
set_option autoImplicit false
set_option linter.unusedVariables false
set_option linter.unusedSimpArgs false
set_option linter.unnecessarySimpa false
namespace Go.Proofs.Ytfljbfgceilppaa
open Go.Den
/- spec.l1In -/
def R55 : Rel := fun _ vs _ rs _ => ∃ n lo hi, vs = [I n, I lo, I hi] ∧ rs = [.bool (inR lo hi n)]
theorem v55 : SpecR Try.prog 55 sg55 R55 := by
  refine fnZ 12 (by kernel_rfl) (fn := Try.f55) (by kernel_rfl) (by kernel_rfl) k55 (by kernel_rfl) trivial ?_
  rintro lim vs H rs H' ⟨n, lo, hi, rfl, rfl⟩ - - -
  simp +contextual [c55, List.replicate, inR]
  omega
/- impl.within -/
def R58 : Rel := fun _ vs _ rs _ => ∃ n lo hi, vs = [I n, I lo, I hi] ∧ rs = [.bool (inR lo hi n)]
theorem v58 : SpecR Try.prog 58 sg58 R58 := by
  refine fnZ 12 (by kernel_rfl) (fn := Try.f58) (by kernel_rfl) (by kernel_rfl) k58 (by kernel_rfl) trivial ?_
  rintro lim vs H rs H' ⟨n, lo, hi, rfl, rfl⟩ - - -
  simp +contextual [c58, List.replicate, inR]
  omega
/- spec.l1All -/
def R77 : Rel := fun _ vs _ rs _ => ∃ v ns lo hi, vs = [v, I lo, I hi] ∧ Sl 3 I v ns ∧ rs = [.bool (ns.all (inR lo hi))]
theorem v77 : SpecR Try.prog 77 sg77 R77 := by
  refine fnZ 18 (by kernel_rfl) (fn := Try.f77) (by kernel_rfl) (by kernel_rfl) (k77 R55) (by kernel_rfl) ⟨v55, trivial⟩ ?_
  rintro lim vs H rs H' ⟨v, ns, lo, hi, rfl, hv, rfl⟩ - - -
  have hlen := hv.2
  simp [c77, List.replicate, hv.len]
  refine goL_intro (fun n σ H'' => ∃ i : Nat, i ≤ ns.length ∧ n = ns.length - i ∧ Before (fun n => !inR lo hi n) ns i ∧ σ = slots 21 [(1, I lo), (2, I hi), (9, v), (10, I ns.length), (11, I i)]) ns.length ⟨0, by omega, by omega, Before.zero, by simp [slots, List.replicate]⟩ ?_
  rintro n σ H'' ⟨i, hi', rfl, hall, rfl⟩
  simp [slots, List.replicate]
  refine ⟨fun hlt => ?_, fun hge => ?_⟩
  · simp [hv.iadd hlt, hv.elem hlt, l77]
    refine goCall_pure rfl ⟨_, _, _, rfl, rfl⟩ (by simp) ?_
    simp
    refine ⟨fun h => ⟨_, List.getElem_mem hlt, h⟩, fun h => ⟨ns.length - (i + 1), by omega, i + 1, by omega, rfl, hall.succ hlt (by simp [h]), ?_⟩⟩
    rw [wrap_id (by omega) (by omega)]; simp
  · have := hall.all hge
    simpa using this
/- impl.areWithin$1 -/
def R96 : Rel := fun _ vs H rs _ => ∃ n r1 r2 lo hi, vs = [I n, .ref r1 0, .ref r2 0] ∧ Num H r1 lo ∧ Num H r2 hi ∧ rs = [.bool (!inR lo hi n)]
theorem v96 : SpecR Try.prog 96 sg96 R96 := by
  refine fnZ 7 (by kernel_rfl) (fn := Try.f96) (by kernel_rfl) (by kernel_rfl) (k96 R58) (by kernel_rfl) ⟨v58, trivial⟩ ?_
  rintro lim vs H rs H' ⟨n, r1, r2, lo, hi, rfl, ⟨ck1, h1, hc1⟩, ⟨ck2, h2, hc2⟩, rfl⟩ - - -
  simp [c96, l96, List.replicate, h1, h2]
  refine goCall_pure rfl ⟨_, _, _, rfl, rfl⟩ (by simp) ?_
  simp
/- slices.IndexFunc[[]int,int] -/
def R104 : Rel := fun _ vs H rs _ => ∃ v ns r1 r2 lo hi, vs = [v, .fn 96 [.ref r1 0, .ref r2 0]] ∧ Sl 3 I v ns ∧ Num H r1 lo ∧ Num H r2 hi ∧ rs = [I (idx (fun n => !inR lo hi n) ns)]
theorem v104 : SpecR Try.prog 104 sg104 R104 := by
  refine fnZ 17 (by kernel_rfl) (fn := Try.f104) (by kernel_rfl) (by kernel_rfl) (k104 R96) (by kernel_rfl) ⟨v96, trivial⟩ ?_
  rintro lim vs H rs H' ⟨v, ns, r1, r2, lo, hi, rfl, hv, ⟨ck1, h1, hc1⟩, ⟨ck2, h2, hc2⟩, rfl⟩ - - -
  have hlen := hv.2
  simp [c104, List.replicate, hv.len]
  refine goL_intro (fun n σ H'' => ∃ i : Nat, i ≤ ns.length ∧ n = ns.length - i ∧ Before (fun n => !inR lo hi n) ns i ∧ σ = slots 19 [(0, v), (1, .fn 96 [.ref r1 0, .ref r2 0]), (7, I ns.length), (8, I i)] ∧ H'' = H) ns.length ⟨0, by omega, by omega, Before.zero, by simp [slots, List.replicate], rfl⟩ ?_
  rintro n σ H'' ⟨i, hi', rfl, hall, rfl, rfl⟩
  simp [slots, List.replicate]
  refine ⟨fun hlt => ?_, fun hge => ?_⟩
  · simp [hv.iadd hlt, hv.elem hlt, l104]
    refine goCall_pure rfl ⟨_, r1, r2, lo, hi, rfl, ⟨ck1, h1, hc1⟩, ⟨ck2, h2, hc2⟩, rfl⟩ ?_ ?_
    · exact ⟨by simp, argV_sh h1 hc1, argV_sh h2 hc2, trivial⟩
    · simp
      refine ⟨fun h => ?_, fun h => ⟨ns.length - (i + 1), by omega, i + 1, by omega, rfl, hall.succ hlt (by simp [h]), ?_⟩⟩
      · rw [hall.idx hlt (by simp [h])]
      · rw [wrap_id (by omega) (by omega)]; simp
  · simp [hall.none hge]
/- slices.ContainsFunc[[]int,int] -/
def R95 : Rel := fun _ vs H rs _ => ∃ v ns r1 r2 lo hi, vs = [v, .fn 96 [.ref r1 0, .ref r2 0]] ∧ Sl 3 I v ns ∧ Num H r1 lo ∧ Num H r2 hi ∧ rs = [.bool (ns.any fun n => !inR lo hi n)]
theorem v95 : SpecR Try.prog 95 sg95 R95 := by
  refine fnZ 7 (by kernel_rfl) (fn := Try.f95) (by kernel_rfl) (by kernel_rfl) (k95 R104) (by kernel_rfl) ⟨v104, trivial⟩ ?_
  rintro lim vs H rs H' ⟨v, ns, r1, r2, lo, hi, rfl, hv, h1, h2, rfl⟩ - - -
  simp [c95, l95, List.replicate]
  refine goCall_pure rfl ⟨_, _, r1, r2, lo, hi, rfl, hv, h1, h2, rfl⟩ (by simp) ?_
  simp [idx_ge]
/- impl.areWithin -/
def R79 : Rel := fun _ vs _ rs _ => ∃ v ns lo hi, vs = [v, I lo, I hi] ∧ Sl 3 I v ns ∧ rs = [.bool (ns.all (inR lo hi))]
theorem v79 : SpecR Try.prog 79 sg79 R79 := by
  refine fnZ 8 (by kernel_rfl) (fn := Try.f79) (by kernel_rfl) (by kernel_rfl) (k79 R95) (by kernel_rfl) ⟨v95, trivial⟩ ?_
  rintro lim vs H rs H' ⟨v, ns, lo, hi, rfl, hv, rfl⟩ - - -
  simp [c79, l79, List.replicate]
  refine goCall_pure rfl ⟨_, _, _, _, lo, hi, rfl, hv, ⟨.own, by simp, by simp⟩, ⟨.own, by simp, by simp⟩, rfl⟩ (by simp) ?_
  simp [List.not_any_eq_all_not]
/- spec.bxSum -/
def R92 : Rel := fun _ vs _ rs _ => ∃ v ns, vs = [v] ∧ Sl 3 I v ns ∧ Small ns ∧ rs = [I ns.sum]
theorem v92 : SpecR Try.prog 92 sg92 R92 := by
  refine fnZ 16 (by kernel_rfl) (fn := Try.f92) (by kernel_rfl) (by kernel_rfl) k92 (by kernel_rfl) trivial ?_
  rintro lim vs H rs H' ⟨v, ns, rfl, hv, hsm, rfl⟩ - - -
  have hlen := hv.2
  simp [c92, List.replicate, hv.len]
  refine goL_intro (fun n σ H'' => ∃ i : Nat, i ≤ ns.length ∧ n = ns.length - i ∧ σ = slots 17 [(3, I (ns.take i).sum), (6, v), (7, I ns.length), (8, I i)]) ns.length ⟨0, by omega, by omega, by simp [slots, List.replicate]⟩ ?_
  rintro n σ H'' ⟨i, hi', rfl, rfl⟩
  simp [slots, List.replicate]
  refine ⟨fun hlt => ?_, fun hge => ?_⟩
  · simp [hv.iadd hlt, hv.elem hlt]
    refine ⟨ns.length - (i + 1), by omega, i + 1, by omega, rfl, ?_, ?_⟩
    · have h1 := hsm.sum (i + 1)
      rw [List.take_succ_eq_append_getElem hlt] at h1 ⊢
      simp only [List.sum_append, List.sum_cons, List.sum_nil] at h1 ⊢
      rw [wrap_id (by omega) (by omega)]; omega
    · rw [wrap_id (by omega) (by omega)]; simp
  · rw [List.take_of_length_le hge]
/- impl.sum -/
def R80 : Rel := fun _ vs _ rs _ => ∃ v ns, vs = [v] ∧ Sl 3 I v ns ∧ Small ns ∧ rs = [I ns.sum]
theorem v80 : SpecR Try.prog 80 sg80 R80 := by
  refine fnZ 16 (by kernel_rfl) (fn := Try.f80) (by kernel_rfl) (by kernel_rfl) k80 (by kernel_rfl) trivial ?_
  rintro lim vs H rs H' ⟨v, ns, rfl, hv, hsm, rfl⟩ - - -
  have hlen := hv.2
  simp [c80, List.replicate, hv.len]
  refine goL_intro (fun n σ H'' => ∃ i : Nat, i ≤ ns.length ∧ n = ns.length - i ∧ σ = slots 17 [(3, I (ns.take i).sum), (6, v), (7, I ns.length), (8, I i)]) ns.length ⟨0, by omega, by omega, by simp [slots, List.replicate]⟩ ?_
  rintro n σ H'' ⟨i, hi', rfl, rfl⟩
  simp [slots, List.replicate]
  refine ⟨fun hlt => ?_, fun hge => ?_⟩
  · simp [hv.iadd hlt, hv.elem hlt]
    refine ⟨ns.length - (i + 1), by omega, i + 1, by omega, rfl, ?_, ?_⟩
    · have h1 := hsm.sum (i + 1)
      rw [List.take_succ_eq_append_getElem hlt] at h1 ⊢
      simp only [List.sum_append, List.sum_cons, List.sum_nil] at h1 ⊢
      rw [wrap_id (by omega) (by omega)]; omega
    · rw [wrap_id (by omega) (by omega)]; simp
  · rw [List.take_of_length_le hge]
/- impl.bit -/
def R81 : Rel := fun _ vs _ rs _ => ∃ b, vs = [.bool b] ∧ rs = [I (if b then 1 else 0)]
theorem v81 : SpecR Try.prog 81 sg81 R81 := by
  refine fnZ 3 (by kernel_rfl) (fn := Try.f81) (by kernel_rfl) (by kernel_rfl) k81 (by kernel_rfl) trivial ?_
  rintro lim vs H rs H' ⟨b, rfl, rfl⟩ - - -
  simp [c81, List.replicate]
/- spec.l1Own -/
def R71 : Rel := fun _ vs _ rs _ => ∃ v ns, vs = [v] ∧ Sl 3 I v ns ∧ ns.length ≤ 1048576 ∧ rs = [.sl 3 (ns.map I)]
theorem v71 : SpecR Try.prog 71 sg71 R71 := by
  refine fnZ 5 (by kernel_rfl) (fn := Try.f71) (by kernel_rfl) (by kernel_rfl) k71 (by kernel_rfl) trivial ?_
  rintro lim vs H rs H' ⟨v, ns, rfl, hv, hsm, rfl⟩ - - -
  have := hv.app0 (xs := []) (by simp; omega)
  simp at this
  simp [c71, List.replicate, this]
/- slices.Clone[[]int,int] -/
def R72 : Rel := fun _ vs _ rs _ => ∃ v ns, vs = [v] ∧ Sl 3 I v ns ∧ ns.length ≤ 1048576 ∧ rs = [v]
theorem v72 : SpecR Try.prog 72 sg72 R72 := by
  refine fnZ 7 (by kernel_rfl) (fn := Try.f72) (by kernel_rfl) (by kernel_rfl) k72 (by kernel_rfl) trivial ?_
  rintro lim vs H rs H' ⟨v, ns, rfl, hv, hsm, rfl⟩ - - -
  rcases hv.1 with rfl | ⟨rfl, rfl⟩
  · have := hv.app0 (xs := []) (by simp; omega)
    simp at this
    simp [c72, List.replicate, this]
  · simp [c72, List.replicate]
/- spec.l1Most -/
def R103 : Rel := fun _ vs _ rs _ => ∃ a b, vs = [I a, I b] ∧ rs = [I (max a b)]
theorem v103 : SpecR Try.prog 103 sg103 R103 := by
  refine fnZ 8 (by kernel_rfl) (fn := Try.f103) (by kernel_rfl) (by kernel_rfl) k103 (by kernel_rfl) trivial ?_
  rintro lim vs H rs H' ⟨a, b, rfl, rfl⟩ - - -
  simp [c103, List.replicate]
  omega
/- spec.bxMost -/
def R94 : Rel := fun _ vs _ rs _ => ∃ v ns, vs = [v] ∧ Sl 3 I v ns ∧ rs = [I (maxL ns)]
theorem v94 : SpecR Try.prog 94 sg94 R94 := by
  refine fnZ 16 (by kernel_rfl) (fn := Try.f94) (by kernel_rfl) (by kernel_rfl) (k94 R103) (by kernel_rfl) ⟨v103, trivial⟩ ?_
  rintro lim vs H rs H' ⟨v, ns, rfl, hv, rfl⟩ - - -
  have hlen := hv.2
  simp [c94, List.replicate, hv.len]
  refine goL_intro (fun n σ H'' => ∃ i : Nat, i ≤ ns.length ∧ n = ns.length - i ∧ σ = slots 17 [(3, I (maxL (ns.take i))), (6, v), (7, I ns.length), (8, I i)]) ns.length ⟨0, by omega, by omega, by simp [slots, List.replicate, maxL]⟩ ?_
  rintro n σ H'' ⟨i, hi', rfl, rfl⟩
  simp [slots, List.replicate]
  refine ⟨fun hlt => ?_, fun hge => ?_⟩
  · simp [hv.iadd hlt, hv.elem hlt, l94]
    refine goCall_pure rfl ⟨_, _, rfl, rfl⟩ (by simp) ?_
    simp
    refine ⟨ns.length - (i + 1), by omega, i + 1, by omega, rfl, ?_, ?_⟩
    · rw [List.take_succ_eq_append_getElem hlt]; simp only [maxL, List.foldl_append, List.foldl_cons, List.foldl_nil]
    · rw [wrap_id (by omega) (by omega)]; simp
  · rw [List.take_of_length_le hge]
end Go.Proofs.Ytfljbfgceilppaa
set_option autoImplicit false
set_option linter.unusedVariables false
set_option linter.unusedSimpArgs false
set_option linter.unnecessarySimpa false
namespace Go.Proofs.Ytfljbfgceilppaa
open Go.Den
/- spec.bxPlans -/
def Rr102 (n : Nat) : Rel := fun _ vs _ rs _ => ∃ v vb vl xs plan loads room, ∃ most : Nat, vs = [v, I room, vb, vl, I most] ∧ Sl 3 I v xs ∧ Sl 3 I vb plan ∧ Sl 3 I vl loads ∧ plan.length ≤ xs.length ∧ xs.length - plan.length < n ∧ xs.length ≤ 9 ∧ loads.length ≤ plan.length ∧ room ≤ 1048576 ∧ most ≤ 1048576 ∧
  (∀ x ∈ xs, 0 ≤ x ∧ x ≤ 1048576) ∧ (∀ x ∈ loads, 0 ≤ x ∧ x ≤ room) ∧ rs = [firstV 3 (plansL room most (xs.drop plan.length) plan loads), I (plansL room most (xs.drop plan.length) plan loads).length]
def R102 : Rel := fun lim vs H rs H' => ∃ n, Rr102 n lim vs H rs H'
set_option maxHeartbeats 2000000 in
theorem vr102 (n : Nat) : SpecR Try.prog 102 sg102 (Rr102 n) := by
  induction n with
  | zero => exact specNone (fn := Try.f102) (by kernel_rfl) (by kernel_rfl) (by kernel_rfl) (by rintro lim vs H rs H' ⟨v, vb, vl, xs, plan, loads, room, most, _, _, _, _, _, h, _⟩; omega)
  | succ n ih =>
    refine fnZ 88 (by kernel_rfl) (fn := Try.f102) (by kernel_rfl) (by kernel_rfl) (k102 R71 (Rr102 n)) (by kernel_rfl) ⟨v71, ih, trivial⟩ ?_
    rintro lim vs H rs H' ⟨v, vb, vl, xs, plan, loads, room, most, rfl, hv, hb, hl, hpl, hn, hxl, hll, hroom, hmost, hxs, hloads, rfl⟩ - - -
    simp [c102, List.replicate, hv.len, hb.len]
    refine ⟨fun heq => ?_, fun hne => ?_⟩
    · simp [l102]
      refine goCall_pure rfl ⟨_, _, rfl, hb, by omega, rfl⟩ (by simp) ?_
      have : xs.drop plan.length = [] := List.drop_eq_nil_of_le (by omega)
      simp [this, plansL, firstV]
    · have hlt : plan.length < xs.length := by omega
      have hd : xs.drop plan.length = xs[plan.length] :: xs.drop (plan.length + 1) := List.drop_eq_getElem_cons hlt
      have hcnt : (plansL room most (xs.drop plan.length) plan loads).length ≤ 68719476736 := Nat.le_trans (plansL_len _ _ _ (by rw [List.length_drop]; omega)) (Nat.le_trans (Nat.pow_le_pow_right (by omega) (by rw [List.length_drop]; omega)) (by decide : 16 ^ 9 ≤ 68719476736))
      rw [hd, plansL_cons] at hcnt ⊢
      obtain ⟨F, hF⟩ : ∃ F : Nat → List (List Int), F = fun b => if (nextL loads b).getD b 0 + xs[plan.length] ≤ room then plansL room most (xs.drop (plan.length + 1)) (plan ++ [(b : Int)]) ((nextL loads b).set b ((nextL loads b).getD b 0 + xs[plan.length])) else [] := ⟨_, rfl⟩
      rw [← hF] at hcnt ⊢
      obtain ⟨M, hM⟩ : ∃ M, M = min (loads.length + 1) most := ⟨_, rfl⟩
      rw [← hM] at hcnt ⊢
      obtain ⟨L, hL0, hL1, hLM⟩ : ∃ L : Nat → List (List Int), L 0 = [] ∧ (∀ b, L (b + 1) = L b ++ F b) ∧ L M = (List.range M).flatMap F := ⟨fun b => (List.range b).flatMap F, rfl, fun b => by simp [List.range_succ], rfl⟩
      rw [← hLM] at hcnt ⊢
      have hmono : ∀ d b : Nat, (L b).length ≤ (L (b + d)).length := by
        intro d
        induction d with
        | zero => intro b; exact Nat.le_refl _
        | succ d ihd => intro b; have := ihd b; rw [← Nat.add_assoc, hL1, List.length_append]; omega
      refine goL_intro (fun n σ H'' => ∃ b : Nat, b ≤ M ∧ n = M - b ∧ σ = slots 93 [(0, v), (1, I room), (2, vb), (3, vl), (4, I most), (12, I plan.length), (13, firstV 3 (L b)), (14, I (L b).length), (15, I b)]) M ⟨0, by omega, by omega, by simp [slots, List.replicate, hL0, firstV]⟩ ?_
      rintro n σ H'' ⟨b, hbM, rfl, rfl⟩
      by_cases hb1 : b ≤ loads.length
      · by_cases hb2 : b < most
        · have hsl0 : Sl 3 I (.sl 3 [I 0]) [0] := ⟨.inl rfl, by simp⟩
          have happ := hsl0.app0 (xs := loads) (by simp; omega)
          simp [slots, List.replicate, hl.len, hb1, hb2, l102]
          refine goCall_pure rfl ⟨_, _, rfl, hl, by omega, rfl⟩ (by simp) ?_
          simp [hl.len, happ]
          obtain ⟨nx, hnx⟩ : ∃ nx, nx = nextL loads b := ⟨_, rfl⟩
          obtain ⟨hnb, hnl⟩ := nextL_len hb1
          rw [← hnx] at hnb hnl
          have hnv : Sl 3 I (.sl 3 (nx.map I)) nx := ⟨.inl rfl, by omega⟩
          have hy : ∀ y ∈ nx, 0 ≤ y ∧ (y ≤ room ∨ y = 0) := by
            intro y hy
            rw [hnx, nextL] at hy
            split at hy
            · simp at hy
              rcases hy with hy | rfl
              · exact ⟨(hloads y hy).1, .inl (hloads y hy).2⟩
              · simp
            · exact ⟨(hloads y hy).1, .inl (hloads y hy).2⟩
          have hyb := hy _ (List.getElem_mem hnb)
          have hxb := hxs _ (List.getElem_mem hlt)
          have hgd : nx.getD b 0 = nx[b] := by simp [List.getD, hnb]
          have hFb : F b = if nx[b] + xs[plan.length] ≤ room then plansL room most (xs.drop (plan.length + 1)) (plan ++ [(b : Int)]) (nx.set b (nx[b] + xs[plan.length])) else [] := by
            rw [hF]; simp only [← hnx, hgd]
          have hwr : IntKind.i64.wrap (nx[b] + xs[plan.length]) = nx[b] + xs[plan.length] := wrap_id (by omega) (by omega)
          have hwb : IntKind.i64.wrap ((b : Int) + 1) = b + 1 := wrap_id (by omega) (by omega)
          have e : (loads.map I ++ [I 0] = nx.map I ∧ (b : Int) = loads.length) ∨ (loads.map I = nx.map I ∧ ¬ (b : Int) = loads.length) := by
            by_cases hbl : b = loads.length
            · left; rw [hnx, nextL, if_pos hbl]; exact ⟨by simp, by omega⟩
            · right; rw [hnx, nextL, if_neg hbl]; exact ⟨rfl, by omega⟩
          refine ⟨fun hbl => ?_, fun hbl => ?_⟩
          focus
            rw [(e.resolve_right fun h => h.2 hbl).1]
            have hlb : b < loads.length + 1 := by omega
            simp [hv.iadd hlt, hv.elem hlt, hnb, hlb, hwr]
          rotate_left
          focus
            rw [(e.resolve_left fun h => hbl h.2).1]
            have hlb : b < loads.length := by omega
            simp [hv.iadd hlt, hv.elem hlt, hnb, hlb, hwr]
          all_goals
            refine ⟨fun hgt => ?_, fun hle => ?_⟩
            · rw [if_neg (by omega)] at hFb
              exact ⟨M - (b + 1), by omega, b + 1, by omega, rfl, by rw [hL1, hFb]; simp, by rw [hL1, hFb]; simp, by rw [hwb]; simp⟩
            · rw [if_pos hle] at hFb
              refine goCall_pure rfl ⟨_, _, rfl, hb, by omega, rfl⟩ (by simp) ?_
              have hap : appV 3 8 true (.sl 3 (plan.map I)) (.sl 3 [I b]) = some (.sl 3 ((plan ++ [(b : Int)]).map I)) := Sl.app0 (⟨.inl rfl, by simp⟩ : Sl 3 I (.sl 3 [I b]) [(b : Int)]) (by simp; omega)
              simp [hap]
              have hlp : (plan ++ [(b : Int)]).length = plan.length + 1 := by simp
              refine goCall_pure rfl ⟨v, .sl 3 ((plan ++ [(b : Int)]).map I), .sl 3 ((nx.set b (nx[b] + xs[plan.length])).map I), xs, plan ++ [(b : Int)], nx.set b (nx[b] + xs[plan.length]), room, most, by simp [List.map_set], hv, ⟨.inl rfl, by omega⟩, ⟨.inl rfl, by rw [List.length_set]; omega⟩, by omega, by omega, hxl, by rw [List.length_set]; omega, hroom, hmost, hxs, ?_, by rw [hlp, ← hFb]⟩ (by simp) ?_
              · intro y hy'
                rcases List.mem_or_eq_of_mem_set hy' with hy' | rfl
                · have := hy y hy'; omega
                · omega
              · have hb3 := hmono (M - (b + 1)) (b + 1)
                rw [Nat.add_sub_cancel' (by omega), hL1, List.length_append] at hb3
                have hwc : IntKind.i64.wrap (((L b).length : Int) + ((F b).length : Int)) = (L b).length + (F b).length := wrap_id (by omega) (by omega)
                have hF1 : firstV 3 (L (b + 1)) = if L b = [] then firstV 3 (F b) else firstV 3 (L b) := by rw [hL1, firstV_app]
                have hN1 : (L (b + 1)).length = (L b).length + (F b).length := by rw [hL1, List.length_append]
                by_cases hFe : F b = []
                · have hz : ¬ 0 < (F b).length := by simp [hFe]
                  rw [hFe] at hwc hN1
                  simp [hwb, hwc, hFe]
                  refine ⟨M - (b + 1), by omega, b + 1, by omega, rfl, ?_, ?_, by omega⟩
                  · rw [hL1, hFe, List.append_nil]
                  · rw [hL1, hFe, List.append_nil]; simpa using hwc
                · have hz : 0 < (F b).length := List.length_pos_iff.2 hFe
                  by_cases hLe : L b = []
                  · simp [hwb, hwc, hz, hLe]
                    refine ⟨M - (b + 1), by omega, b + 1, by omega, rfl, ?_, ?_, by omega⟩
                    · rw [hF1, if_pos hLe]
                    · rw [hN1, hLe]; simp; rw [hLe] at hwc; simpa using hwc
                  · simp [hwb, hwc, hz, hLe]
                    refine ⟨M - (b + 1), by omega, b + 1, by omega, rfl, ?_, ?_, by omega⟩
                    · rw [hF1, if_neg hLe]
                    · rw [hN1]; simp
        · simp [slots, List.replicate, hl.len, hb1, hb2]
          obtain rfl : b = M := by omega
          simp
      · simp [slots, List.replicate, hl.len, hb1]
        obtain rfl : b = M := by omega
        simp
theorem v102 : SpecR Try.prog 102 sg102 R102 := specEx vr102
end Go.Proofs.Ytfljbfgceilppaa
set_option autoImplicit false
set_option linter.unusedVariables false
set_option linter.unusedSimpArgs false
set_option linter.unnecessarySimpa false
namespace Go.Proofs.Ytfljbfgceilppaa
open Go.Den
/- spec.pzThings -/
def R76 : Rel := fun _ vs _ rs _ => ∃ n, vs = [I n] ∧ rs = [.bool (inR 2 4 n)]
theorem v76 : SpecR Try.prog 76 sg76 R76 := by
  refine fnZ 4 (by kernel_rfl) (fn := Try.f76) (by kernel_rfl) (by kernel_rfl) (k76 R55) (by kernel_rfl) ⟨v55, trivial⟩ ?_
  rintro lim vs H rs H' ⟨n, rfl, rfl⟩ - - -
  simp [c76, l76, List.replicate]
  refine goCall_pure rfl ⟨_, _, _, rfl, rfl⟩ (by simp) ?_
  simp
/- spec.pzHidden -/
def R49 : Rel := fun _ vs _ rs _ => ∃ v xs, vs = [v] ∧ Sl 3 I v xs ∧ rs = [.bool (hid xs)]
theorem v49 : SpecR Try.prog 49 sg49 R49 := by
  refine fnZ 9 (by kernel_rfl) (fn := Try.f49) (by kernel_rfl) (by kernel_rfl) (k49 R76 R77) (by kernel_rfl) ⟨v76, v77, trivial⟩ ?_
  rintro lim vs H rs H' ⟨v, xs, rfl, hv, rfl⟩ - - -
  simp [c49, l49, List.replicate, hv.len]
  refine goCall_pure rfl ⟨_, rfl, rfl⟩ (by simp) ?_
  cases h1 : inR 2 4 xs.length
  · simp [hid, h1]
  · simp
    refine goCall_pure rfl ⟨_, _, _, _, rfl, hv, rfl⟩ (by simp) ?_
    simp [hid, h1]
/- impl.areHidden -/
def R52 : Rel := fun _ vs _ rs _ => ∃ v xs, vs = [v] ∧ Sl 3 I v xs ∧ rs = [.bool (hid xs)]
theorem v52 : SpecR Try.prog 52 sg52 R52 := by
  refine fnZ 9 (by kernel_rfl) (fn := Try.f52) (by kernel_rfl) (by kernel_rfl) (k52 R58 R79) (by kernel_rfl) ⟨v58, v79, trivial⟩ ?_
  rintro lim vs H rs H' ⟨v, xs, rfl, hv, rfl⟩ - - -
  simp [c52, l52, List.replicate, hv.len]
  refine goCall_pure rfl ⟨_, _, _, rfl, rfl⟩ (by simp) ?_
  cases h1 : inR 2 4 xs.length
  · simp [hid, h1]
  · simp
    refine goCall_pure rfl ⟨_, _, _, _, rfl, hv, rfl⟩ (by simp) ?_
    simp [hid, h1]
/- impl.AreThings -/
def R99 : Rel := fun _ vs _ rs _ => ∃ v xs, vs = [v] ∧ Sl 3 I v xs ∧ rs = [.bool (inR 1 9 xs.length && xs.all (inR 1 100))]
theorem v99 : SpecR Try.prog 99 sg99 R99 := by
  refine fnZ 9 (by kernel_rfl) (fn := Try.f99) (by kernel_rfl) (by kernel_rfl) (k99 R58 R79) (by kernel_rfl) ⟨v58, v79, trivial⟩ ?_
  rintro lim vs H rs H' ⟨v, xs, rfl, hv, rfl⟩ - - -
  simp [c99, l99, List.replicate, hv.len]
  refine goCall_pure rfl ⟨_, _, _, rfl, rfl⟩ (by simp) ?_
  cases h1 : inR 1 9 xs.length
  · simp
  · simp
    refine goCall_pure rfl ⟨_, _, _, _, rfl, hv, rfl⟩ (by simp) ?_
    simp
/- laws.toClue -/
def R15 : Rel := fun _ vs _ rs _ => ∃ x, vs = [pC x] ∧ rs = [pC x]
theorem v15 : SpecR Try.prog 15 sg15 R15 := by
  refine fnZ 16 (by kernel_rfl) (fn := Try.f15) (by kernel_rfl) (by kernel_rfl) k15 (by kernel_rfl) trivial ?_
  rintro lim vs H rs H' ⟨⟨k, a, b, c⟩, rfl, rfl⟩ - - -
  simp [c15, List.replicate, pC]
/- laws.toIntS -/
def R16 : Rel := fun _ vs _ rs _ => ∃ v ns, vs = [v] ∧ Sl 3 I v ns ∧ ns.length ≤ 1048576 ∧ rs = [.sl 3 (ns.map I)]
theorem v16 : SpecR Try.prog 16 sg16 R16 := by
  refine fnZ 21 (by kernel_rfl) (fn := Try.f16) (by kernel_rfl) (by kernel_rfl) k16 (by kernel_rfl) trivial ?_
  rintro lim vs H rs H' ⟨v, ns, rfl, hv, hb, rfl⟩ - - -
  have hlen := hv.2
  simp [c16, List.replicate, hv.len]
  rw [if_pos (by omega)]
  simp
  refine goL_intro (fun n σ H'' => ∃ i : Nat, i ≤ ns.length ∧ n = ns.length - i ∧ σ = slots 22 [(0, v), (3, .sl 3 (fillL I (I 0) ns i)), (4, I i)]) ns.length ⟨0, by omega, by omega, by simp [slots, List.replicate, fill_zero]⟩ ?_
  rintro n σ H'' ⟨i, hi', rfl, rfl⟩
  simp [slots, List.replicate, hv.len]
  refine ⟨fun hlt => ?_, fun hge => ?_⟩
  · have hset := fill_set (f := I) (z := (I 0)) hlt
    simp [hv.iadd hlt, hv.elem hlt, fill_len hi', fill_get hlt, fill_getE hlt, hlt]
    refine ⟨ns.length - (i + 1), by omega, i + 1, by omega, rfl, ?_, ?_⟩
    · exact hset
    · rw [wrap_id (by omega) (by omega)]; simp
  · simp [fill_all hge]
/- laws.eqIntS -/
def R18 : Rel := fun _ vs _ rs _ => ∃ v w ns ms, vs = [v, w] ∧ Sl 3 I v ns ∧ Sl 3 I w ms ∧ rs = [.bool (decide (ns = ms))]
theorem v18 : SpecR Try.prog 18 sg18 R18 := by
  refine fnZ 24 (by kernel_rfl) (fn := Try.f18) (by kernel_rfl) (by kernel_rfl) k18 (by kernel_rfl) trivial ?_
  rintro lim vs H rs H' ⟨v, w, ns, ms, rfl, hv, hw, rfl⟩ - - -
  have hlen := hv.2
  simp [c18, List.replicate, hv.len, hw.len]
  refine ⟨fun h e => h (by rw [e]), fun hle => ?_⟩
  have hle' : ns.length = ms.length := by omega
  refine goL_intro (fun n σ H'' => ∃ i : Nat, i ≤ ns.length ∧ n = ns.length - i ∧ ns.take i = ms.take i ∧ σ = slots 26 [(0, v), (1, w), (5, I i)]) ns.length ⟨0, by omega, by omega, rfl, by simp [slots, List.replicate]⟩ ?_
  rintro n σ H'' ⟨i, hi', rfl, hT, rfl⟩
  simp [slots, List.replicate, hv.len]
  refine ⟨fun hlt => ?_, fun hge => ?_⟩
  · have hlt2 : i < ms.length := by omega
    simp [hv.iadd hlt, hv.elem hlt, hw.iadd hlt2, hw.elem hlt2]
    refine ⟨fun hne e => ?_, fun heq => ?_⟩
    · subst e; exact hne rfl
    · refine ⟨ns.length - (i + 1), by omega, i + 1, by omega, rfl, ?_, ?_⟩
      · rw [List.take_succ_eq_append_getElem hlt, List.take_succ_eq_append_getElem hlt2, hT, heq]
      · rw [wrap_id (by omega) (by omega)]; simp
  · rw [List.take_of_length_le hge, List.take_of_length_le (by omega)] at hT
    simpa using hT
/- slices.Max[[]int,int] -/
def R84 : Rel := fun _ vs _ rs _ => ∃ v ns, vs = [v] ∧ Sl 3 I v ns ∧ ns ≠ [] ∧ (∀ x ∈ ns, 0 ≤ x) ∧ rs = [I (maxL ns)]
theorem v84 : SpecR Try.prog 84 sg84 R84 := by
  refine fnZ 24 (by kernel_rfl) (fn := Try.f84) (by kernel_rfl) (by kernel_rfl) k84 (by kernel_rfl) trivial ?_
  rintro lim vs H rs H' ⟨v, ns, rfl, hv, hne, hns, rfl⟩ - - -
  have hlen := hv.2
  have hpos := List.length_pos_iff.2 hne
  simp [c84, List.replicate, hv.len, hne]
  refine ⟨by omega, fun _ => ?_⟩
  have hi0 : iaddV 3 v (.int .i64 0) = some (.eix 0 0) := hv.iadd hpos
  have he0 := hv.elem (j := 0) (n := none) hpos
  simp [hi0, he0]
  refine goL_intro (fun n σ H'' => ∃ i : Nat, 1 ≤ i ∧ i ≤ ns.length ∧ n = ns.length - i ∧ σ = slots 25 [(0, v), (3, I (maxL (ns.take i))), (4, I i)]) (ns.length - 1) ⟨1, by omega, by omega, by omega, ?_⟩ ?_
  · have h0 := hns _ (List.getElem_mem hpos)
    have : maxL (ns.take 1) = ns[0] := by
      cases ns with
      | nil => exact absurd rfl hne
      | cons a l => simp [maxL] at h0 ⊢; omega
    simp [slots, List.replicate, this]
  rintro n σ H'' ⟨i, hi1, hi', rfl, rfl⟩
  simp [slots, List.replicate, hv.len]
  refine ⟨fun hlt => ?_, fun hge => ?_⟩
  · simp [hv.iadd hlt, hv.elem hlt]
    refine ⟨ns.length - (i + 1), by omega, i + 1, by omega, by omega, rfl, ?_, ?_⟩
    · rw [List.take_succ_eq_append_getElem hlt]; simp only [maxL, List.foldl_append, List.foldl_cons, List.foldl_nil]
    · rw [wrap_id (by omega) (by omega)]; simp
  · rw [List.take_of_length_le hge]
/- spec.pzClue -/
def R50 : Rel := fun _ vs _ rs _ => ∃ n x, vs = [I n, pC x] ∧ 0 ≤ n ∧ n ≤ 1048576 ∧ rs = [.bool (clueOk n x)]
set_option maxRecDepth 4000 in
set_option maxHeartbeats 40000000 in
theorem v50 : SpecR Try.prog 50 sg50 R50 := by
  refine fnZ 96 (by kernel_rfl) (fn := Try.f50) (by kernel_rfl) (by kernel_rfl) (k50 R55) (by kernel_rfl) ⟨v55, trivial⟩ ?_
  rintro lim vs H rs H' ⟨n, ⟨k, a, b, c⟩, rfl, hn0, hn1, rfl⟩ - - -
  have hw : IntKind.i64.wrap (n - 1) = n - 1 := wrap_id (by omega) (by omega)
  simp only [pC, c50, l50]
  rw [goC_rot]
  refine goC_cut (fun σ' H' => H' = H ++ [(CK.own, [I k, I a, I b, I c])] ∧ Gar 98 [(0, I n), (3, .ref H.length 0), (5, .bool (a == 0 && b == 0))] σ') ?_ ?_
  · by_cases ha : a = 0
    · simp [List.replicate, ha]
      exact .intro (by simp) (by simp)
    · simp [List.replicate, ha]
      exact .intro (by simp) (by simp [ha])
  rintro σ' H' ⟨rfl, us, rfl⟩
  refine goC_cut (fun σ' H' => H' = H ++ [(CK.own, [I k, I a, I b, I c])] ∧ Gar 98 [(0, I n), (3, .ref H.length 0), (5, .bool (a == 0 && b == 0)), (6, .bool (inR 0 (n - 1) a && inR 0 (n - 1) b && a != b))] σ') ?_ ?_
  · simp (maxSteps := 2000000) [gar, List.range, List.range.loop, hw]
    refine goCall_pure rfl ⟨_, _, _, rfl, rfl⟩ (by simp) ?_
    cases h1 : inR 0 (n - 1) a
    · simp (maxSteps := 2000000)
      exact .intro (by simp) (by simp)
    · simp (maxSteps := 2000000) [hw]
      refine goCall_pure rfl ⟨_, _, _, rfl, rfl⟩ (by simp) ?_
      cases h2 : inR 0 (n - 1) b
      · simp (maxSteps := 2000000)
        exact .intro (by simp) (by simp)
      · simp (maxSteps := 2000000)
        exact .intro (by simp) (by simp)
  rintro σ' H' ⟨rfl, us, rfl⟩
  rw [← goC_rot]
  refine goC_cut (fun σ' H' => H' = H ++ [(CK.own, [I k, I a, I b, I c])] ∧ Gar 98 [(3, .ref H.length 0), (5, .bool (a == 0 && b == 0)), (6, .bool (inR 0 (n - 1) a && inR 0 (n - 1) b && a != b)), (35, I k)] σ') ?_ ?_
  · simp (maxSteps := 2000000) [gar, List.range, List.range.loop]
    exact .intro (by simp) (by simp)
  rintro σ' H' ⟨rfl, us, rfl⟩
  have hk : k = 0 ∨ k = 1 ∨ k = 2 ∨ k = 3 ∨ k = 4 ∨ k = 5 ∨ (k ≠ 0 ∧ k ≠ 1 ∧ k ≠ 2 ∧ k ≠ 3 ∧ k ≠ 4 ∧ k ≠ 5) := by omega
  rcases hk with rfl | rfl | rfl | rfl | rfl | rfl | ⟨k0, k1, k2, k3, k4, k5⟩
  · cases h0 : a == 0 && b == 0
    · simp (maxSteps := 2000000) [gar, List.range, List.range.loop]
      simp [clueOk, h0]
    · simp (maxSteps := 2000000) [gar, List.range, List.range.loop]
      refine goCall_pure rfl ⟨_, _, _, rfl, rfl⟩ (by simp) ?_
      simp [clueOk, h0]
  · cases h0 : inR 0 (n - 1) a && inR 0 (n - 1) b && a != b
    · simp (maxSteps := 2000000) [gar, List.range, List.range.loop]
      simp [clueOk, h0]
    · simp (maxSteps := 2000000) [gar, List.range, List.range.loop]
      refine goCall_pure rfl ⟨_, _, _, rfl, rfl⟩ (by simp) ?_
      simp [clueOk, h0]
  · simp (maxSteps := 2000000) [gar, List.range, List.range.loop]
    refine goCall_pure rfl ⟨_, _, _, rfl, rfl⟩ (by simp) ?_
    cases h0 : inR 6 24 a
    · simp [clueOk, h0]
    · by_cases hb : b = 0
      · simp [hb]
        refine goCall_pure rfl ⟨_, _, _, rfl, rfl⟩ (by simp) ?_
        simp [clueOk, h0, hb]
      · simp [clueOk, h0, hb]
  · simp (maxSteps := 2000000) [gar, List.range, List.range.loop]
    refine goCall_pure rfl ⟨_, _, _, rfl, rfl⟩ (by simp) ?_
    cases h0 : inR 1 24 a
    · simp [clueOk, h0]
    · by_cases hb : b = 0
      · simp [hb]
        refine goCall_pure rfl ⟨_, _, _, rfl, rfl⟩ (by simp) ?_
        simp [clueOk, h0, hb]
      · simp [clueOk, h0, hb]
  · cases h0 : inR 0 (n - 1) a && inR 0 (n - 1) b && a != b
    · simp (maxSteps := 2000000) [gar, List.range, List.range.loop]
      simp [clueOk, h0]
    · simp (maxSteps := 2000000) [gar, List.range, List.range.loop]
      refine goCall_pure rfl ⟨_, _, _, rfl, rfl⟩ (by simp) ?_
      simp [clueOk, h0]
  · cases h0 : a == 0 && b == 0
    · simp (maxSteps := 2000000) [gar, List.range, List.range.loop]
      simp [clueOk, h0]
    · simp (maxSteps := 2000000) [gar, List.range, List.range.loop]
      refine goCall_pure rfl ⟨_, _, _, rfl, rfl⟩ (by simp) ?_
      simp [clueOk, h0]
  · simp (maxSteps := 2000000) [gar, List.range, List.range.loop, k0, k1, k2, k3, k4, k5]
    simp [clueOk, k0, k1, k2, k3, k4, k5]
end Go.Proofs.Ytfljbfgceilppaa
set_option autoImplicit false
set_option linter.unusedVariables false
set_option linter.unusedSimpArgs false
set_option linter.unnecessarySimpa false
namespace Go.Proofs.Ytfljbfgceilppaa
open Go.Den
/- spec.bxFew -/
def R93 : Rel := fun _ vs _ rs _ => ∃ v xs room, vs = [v, I room] ∧ Sl 3 I v xs ∧ xs ≠ [] ∧ xs.length ≤ 9 ∧ 0 ≤ room ∧ room ≤ 1048576 ∧ (∀ x ∈ xs, 0 ≤ x ∧ x ≤ room) ∧
  rs = [I (few room xs), firstV 3 (plansL room (few room xs) xs [] []), I (plansL room (few room xs) xs [] []).length]
theorem v93 : SpecR Try.prog 93 sg93 R93 := by
  refine fnZ 22 (by kernel_rfl) (fn := Try.f93) (by kernel_rfl) (by kernel_rfl) (k93 R102) (by kernel_rfl) ⟨v102, trivial⟩ ?_
  rintro lim vs H rs H' ⟨v, xs, room, rfl, hv, hne, hl, hr0, hr1, hxs, rfl⟩ - - -
  have hpos := List.length_pos_iff.2 hne
  have h0 : plansL room 0 xs [] [] = [] := by
    cases xs with
    | nil => exact absurd rfl hne
    | cons x xs => simp [plansL_cons]
  simp [c93, l93, List.replicate, hv.len]
  refine goL_intro (fun n σ H'' => ∃ m : Nat, 1 ≤ m ∧ m ≤ xs.length ∧ n = xs.length - m ∧ (∀ k, k < m → plansL room k xs [] [] = []) ∧ σ = slots 24 [(0, v), (1, I room), (7, I m)]) (xs.length - 1) ⟨1, by omega, by omega, by omega, fun k hk => by rw [show k = 0 by omega, h0], by simp [slots, List.replicate]⟩ ?_
  rintro n σ H'' ⟨m, hm1, hm2, rfl, hmin, rfl⟩
  simp [slots, List.replicate, l93]
  refine goCall_pure rfl ⟨xs.length + 1, v, .nil, .nil, xs, [], [], room, m, rfl, hv, .nil0, .nil0, by simp, by simp, hl, by simp, hr1, by omega, fun x hx => ⟨(hxs x hx).1, by have := (hxs x hx).2; omega⟩, by simp, rfl⟩ (by simp) ?_
  by_cases he : plansL room m xs [] [] = []
  · have hlt : m < xs.length := by
      rcases Nat.lt_or_ge m xs.length with h | h
      · exact h
      · exact absurd he (plansL_some (by simp; omega) fun x hx => (hxs x hx).2)
    simp [he]
    refine ⟨xs.length - (m + 1), by omega, m + 1, by omega, by omega, rfl, ?_, ?_⟩
    · intro k hk
      rcases Nat.lt_or_ge k m with h | h
      · exact hmin k h
      · rw [show k = m by omega, he]
    · rw [wrap_id (by omega) (by omega)]; simp
  · have hp := List.length_pos_iff.2 he
    have hf := few_eq hm2 he hmin
    simp [hp, hf]
end Go.Proofs.Ytfljbfgceilppaa
set_option autoImplicit false
set_option linter.unusedVariables false
set_option linter.unusedSimpArgs false
set_option linter.unnecessarySimpa false
namespace Go.Proofs.Ytfljbfgceilppaa
open Go.Den
/- spec.pzValue -/
def R78 : Rel := fun _ vs _ rs _ => ∃ v xs k a b, vs = [I k, I a, I b, v] ∧ Sl 3 I v xs ∧ hid xs = true ∧ tellOk k a b xs ∧ rs = [I (tellV k a b xs)]
set_option maxHeartbeats 4000000 in
theorem v78 : SpecR Try.prog 78 sg78 R78 := by
  refine fnZ 79 (by kernel_rfl) (fn := Try.f78) (by kernel_rfl) (by kernel_rfl) (k78 R92 R93 R94) (by kernel_rfl) ⟨v92, v93, v94, trivial⟩ ?_
  rintro lim vs H rs H' ⟨v, xs, k, a, b, rfl, hv, hh, ht, rfl⟩ - - -
  obtain ⟨hl1, hl2, hx⟩ := hid_spec hh
  have hk : k = 0 ∨ k = 1 ∨ k = 2 ∨ k = 3 ∨ k = 4 ∨ (k ≠ 0 ∧ k ≠ 1 ∧ k ≠ 2 ∧ k ≠ 3 ∧ k ≠ 4) := by omega
  simp only [c78, l78]
  rcases hk with rfl | rfl | rfl | rfl | rfl | ⟨k0, k1, k2, k3, k4⟩
  · simp [List.replicate]
    refine goCall_pure rfl ⟨v, xs, rfl, hv, ⟨by omega, fun n hn => by have := hx n hn; omega⟩, rfl⟩ (by simp) ?_
    simp [tellV]
  · obtain ⟨i, hi, rfl⟩ := natIdx (ht.1 (.inl rfl)).1 (ht.1 (.inl rfl)).2.1
    obtain ⟨j, hj, rfl⟩ := natIdx (ht.1 (.inl rfl)).2.2.1 (ht.1 (.inl rfl)).2.2.2
    simp [List.replicate, hv.iadd hi, hv.elem hi, hv.iadd hj, hv.elem hj]
    simp [tellV, getI_nat hi, getI_nat hj]
  · simp [List.replicate]
    have h24 := ht.2.1 rfl
    refine goCall_pure rfl ⟨v, xs, a, rfl, hv, by rintro rfl; simp at hl1, by omega, by omega, by omega, fun x h => by have := hx x h; omega, rfl⟩ (by simp) ?_
    simp [tellV]
  · have h24 := ht.2.2 rfl
    have hp16 : 2 ^ xs.length ≤ 16 := Nat.le_trans (Nat.pow_le_pow_right (by omega) hl2) (by decide)
    have hp1 : 1 ≤ 2 ^ xs.length := Nat.one_le_two_pow
    obtain ⟨N, hN⟩ : ∃ N, N = 2 ^ xs.length := ⟨_, rfl⟩
    have hshl : binV .shl (.int .i64 1) (.int .i64 xs.length) = some (.int .i64 (N : Int)) := by rw [hN]; exact shl_I (by omega)
    rw [← hN] at hp16 hp1
    simp [List.replicate]
    refine goL_intro (fun n σ H'' => ∃ m : Nat, 1 ≤ m ∧ m ≤ N ∧ n = N - m ∧ (∀ k, 1 ≤ k → k < m → mS xs k ≠ a) ∧ σ = slots 83 [(1, I a), (3, v), (12, I m)]) (N - 1) ⟨1, by omega, by omega, by omega, fun k h1 h2 => by omega, by simp [slots, List.replicate]⟩ ?_
    rintro n σ H'' ⟨m, hm1, hm2, rfl, hmin, rfl⟩
    simp [slots, List.replicate, hv.len, hshl]
    refine ⟨fun hlt => ?_, fun hge => ?_⟩
    · refine goL_intro (fun n σ H'' => ∃ i : Nat, i ≤ xs.length ∧ n = xs.length - i ∧ σ = slots 83 [(1, I a), (3, v), (12, I m), (13, I (mS (xs.take i) m)), (51, v), (52, I xs.length), (53, I i)]) xs.length ⟨0, by omega, by omega, by simp [slots, List.replicate, mS]⟩ ?_
      rintro n σ H'' ⟨i, hi', rfl, rfl⟩
      have hq : m / 2 ^ i < 9223372036854775808 := Nat.lt_of_le_of_lt (Nat.div_le_self _ _) (by omega)
      simp [slots, List.replicate, hv.len]
      refine ⟨fun hlt => ?_, fun hge => ?_⟩
      · have hxi := hx _ (List.getElem_mem hlt)
        have hb1 := mS_bound (B := 6) (by omega) (m := m) (xs := xs.take i) fun x h => by have := hx x (List.mem_of_mem_take h); omega
        have hb2 := mS_bound (B := 6) (by omega) (m := m) (xs := xs.take (i + 1)) fun x h => by have := hx x (List.mem_of_mem_take h); omega
        have hs := mS_take hlt (m := m)
        simp only [List.length_take] at hb1 hb2
        have hw2 : IntKind.i64.wrap (((m / 2 ^ i % 2 : Nat) : Int) * xs[i]) = ((m / 2 ^ i % 2 : Nat) : Int) * xs[i] := wrap_id (by omega) (by omega)
        have hw1 : IntKind.i64.wrap (mS (xs.take i) m + ((m / 2 ^ i % 2 : Nat) : Int) * xs[i]) = mS (xs.take (i + 1)) m := by rw [hs]; exact wrap_id (by omega) (by omega)
        have hwi : IntKind.i64.wrap ((i : Int) + 1) = ((i + 1 : Nat) : Int) := by rw [wrap_id (by omega) (by omega)]; simp
        have hshr := shr_I (m := m) (i := i) (by omega)
        have hand := and_I hq
        generalize m / 2 ^ i = q at hshr hand hw1 hw2
        generalize q % 2 = bt at hand hw1 hw2
        simp [hv.iadd hlt, hv.elem hlt, hshr, hand, hw2, hw1, hwi]
        exact ⟨xs.length - (i + 1), by omega, i + 1, by omega, rfl, rfl, by omega⟩
      · rw [List.take_of_length_le hge]
        refine ⟨fun h => ?_, fun h => ⟨N - (m + 1), by omega, m + 1, by omega, by omega, rfl, fun k h1 h2 => ?_, by rw [wrap_id (by omega) (by omega)]; simp⟩⟩
        · have : subS xs a = true := subS_mS.2 ⟨m, by omega, h⟩
          simp [tellV, this]
        · rcases Nat.lt_or_ge k m with h3 | h3
          · exact hmin k h1 h3
          · rw [show k = m by omega]; exact h
    · have : subS xs a = false := by
        rw [Bool.eq_false_iff]
        intro h
        obtain ⟨k, hk, e⟩ := subS_mS.1 h
        rcases Nat.eq_zero_or_pos k with rfl | hk0
        · rw [mS_zero] at e; omega
        · exact hmin k hk0 (by omega) e
      simp [tellV, this]
  · obtain ⟨i, hi, rfl⟩ := natIdx (ht.1 (.inr rfl)).1 (ht.1 (.inr rfl)).2.1
    obtain ⟨j, hj, rfl⟩ := natIdx (ht.1 (.inr rfl)).2.2.1 (ht.1 (.inr rfl)).2.2.2
    simp [List.replicate, hv.iadd hi, hv.elem hi, hv.iadd hj, hv.elem hj]
    have h1 := hx _ (List.getElem_mem hi)
    have h2 := hx _ (List.getElem_mem hj)
    have h3 : 0 ≤ xs[i] * xs[j] := Int.mul_nonneg (by omega) (by omega)
    have h4 : xs[i] * xs[j] ≤ 6 * 6 := Int.mul_le_mul (by omega) (by omega) (by omega) (by omega)
    rw [wrap_id (by omega) (by omega)]
    simp [tellV, getI_nat hi, getI_nat hj]
  · simp [List.replicate, k0, k1, k2, k3, k4]
    refine goCall_pure rfl ⟨v, xs, rfl, hv, rfl⟩ (by simp) ?_
    simp [tellV, k0, k1, k2, k3, k4]
end Go.Proofs.Ytfljbfgceilppaa
set_option autoImplicit false
set_option linter.unusedVariables false
set_option linter.unusedSimpArgs false
set_option linter.unnecessarySimpa false
namespace Go.Proofs.Ytfljbfgceilppaa
open Go.Den
/- spec.pzFits -/
def R51 : Rel := fun _ vs _ rs _ => ∃ x v xs, vs = [pC x, v] ∧ Sl 3 I v xs ∧ hid xs = true ∧ clueOk xs.length x = true ∧ rs = [.bool (fitsC x xs)]
theorem v51 : SpecR Try.prog 51 sg51 R51 := by
  refine fnZ 14 (by kernel_rfl) (fn := Try.f51) (by kernel_rfl) (by kernel_rfl) (k51 R78) (by kernel_rfl) ⟨v78, trivial⟩ ?_
  rintro lim vs H rs H' ⟨⟨k, a, b, c⟩, v, xs, rfl, hv, hh, hc, rfl⟩ - - -
  have ht := clueOk_tell hc
  simp [c51, l51, List.replicate, pC]
  refine goCall_pure rfl ⟨_, xs, k, a, b, rfl, hv, hh, ht, rfl⟩ (by simp) ?_
  simp [fitsC]
/- spec.DoesFit -/
def R14 : Rel := fun _ vs _ rs _ => ∃ x v xs, vs = [pC x, v] ∧ Sl 3 I v xs ∧ xs.length ≤ 1048576 ∧ rs = [.bool (hid xs && clueOk xs.length x && fitsC x xs), .bool (hid xs && clueOk xs.length x)]
theorem v14 : SpecR Try.prog 14 sg14 R14 := by
  refine fnZ 17 (by kernel_rfl) (fn := Try.f14) (by kernel_rfl) (by kernel_rfl) (k14 R49 R50 R51) (by kernel_rfl) ⟨v49, v50, v51, trivial⟩ ?_
  rintro lim vs H rs H' ⟨⟨k, a, b, c⟩, v, xs, rfl, hv, hl, rfl⟩ - - -
  simp [c14, l14, List.replicate, pC, hv.len]
  refine goCall_pure rfl ⟨_, xs, rfl, hv, rfl⟩ (by simp) ?_
  cases h1 : hid xs
  · simp
  · simp [hv.len]
    refine goCall_pure rfl ⟨_, ⟨k, a, b, c⟩, rfl, by omega, by omega, rfl⟩ (by simp) ?_
    cases h2 : clueOk xs.length ⟨k, a, b, c⟩
    · simp
    · simp
      refine goCall_pure rfl ⟨⟨k, a, b, c⟩, v, xs, rfl, hv, h1, h2, rfl⟩ (by simp) ?_
      simp
/- impl.IsClue -/
def R53 : Rel := fun _ vs _ rs _ => ∃ n x, vs = [I n, pC x] ∧ 0 ≤ n ∧ n ≤ 1048576 ∧ rs = [.bool (inR 2 4 n && clueOk n x)]
set_option maxRecDepth 4000 in
set_option maxHeartbeats 40000000 in
theorem v53 : SpecR Try.prog 53 sg53 R53 := by
  refine fnZ 107 (by kernel_rfl) (fn := Try.f53) (by kernel_rfl) (by kernel_rfl) (k53 R58) (by kernel_rfl) ⟨v58, trivial⟩ ?_
  rintro lim vs H rs H' ⟨n, ⟨k, a, b, c⟩, rfl, hn0, hn1, rfl⟩ - - -
  cases h24 : inR 2 4 n
  · simp [c53, l53, List.replicate, pC]
    refine goCall_pure rfl ⟨_, _, _, rfl, rfl⟩ (by simp) ?_
    simp [h24]
  simp only [pC, c53, l53]
  rw [goC_rot]
  refine goC_cut (fun σ' H' => H' = H ++ [(CK.own, [I k, I a, I b, I c])] ∧ Gar 109 [(0, I n), (3, .ref H.length 0)] σ') ?_ ?_
  · simp [List.replicate]
    refine goCall_pure rfl ⟨_, _, _, rfl, rfl⟩ (by simp) ?_
    rw [h24]
    simp
    exact .intro (by simp) (by simp)
  rintro σ' H' ⟨rfl, us, rfl⟩
  obtain ⟨pr, hpr⟩ : ∃ pr, pr = (inR 0 (n - 1) a && inR 0 (n - 1) b && a != b) := ⟨_, rfl⟩
  refine goC_cut (fun σ' H' => H' = H ++ [(CK.own, [I k, I a, I b, I c])] ∧ Gar 109 [(0, I n), (3, .ref H.length 0), (5, .bool pr)] σ') ?_ ?_
  · by_cases h1 : 0 ≤ a
    · by_cases h2 : a < n
      · by_cases h3 : 0 ≤ b
        · by_cases h4 : b < n
          · have : pr = (a != b) := by rw [hpr, show inR 0 (n - 1) a = true by simp [inR]; omega, show inR 0 (n - 1) b = true by simp [inR]; omega]; simp
            simp [gar, List.range, List.range.loop, h1, h2, h3, h4]
            exact .intro (by simp) (by simp [this])
          · have : pr = false := by rw [hpr, show inR 0 (n - 1) b = false by simp [inR]; omega]; simp
            simp [gar, List.range, List.range.loop, h1, h2, h3, h4]
            exact .intro (by simp) (by simp [this])
        · have : pr = false := by rw [hpr, show inR 0 (n - 1) b = false by simp [inR]; omega]; simp
          simp [gar, List.range, List.range.loop, h1, h2, h3]
          exact .intro (by simp) (by simp [this])
      · have : pr = false := by rw [hpr, show inR 0 (n - 1) a = false by simp [inR]; omega]; simp
        simp [gar, List.range, List.range.loop, h1, h2]
        exact .intro (by simp) (by simp [this])
    · have : pr = false := by rw [hpr, show inR 0 (n - 1) a = false by simp [inR]; omega]; simp
      simp [gar, List.range, List.range.loop, h1]
      exact .intro (by simp) (by simp [this])
  rintro σ' H' ⟨rfl, us, rfl⟩
  refine goC_cut (fun σ' H' => H' = H ++ [(CK.own, [I k, I a, I b, I c])] ∧ Gar 109 [(0, I n), (3, .ref H.length 0), (5, .bool pr), (6, .bool (a == 0 && b == 0))] σ') ?_ ?_
  · by_cases ha : a = 0
    · simp [gar, List.range, List.range.loop, ha]
      exact .intro (by simp) (by simp)
    · simp [gar, List.range, List.range.loop, ha]
      exact .intro (by simp) (by simp [ha])
  rintro σ' H' ⟨rfl, us, rfl⟩
  rw [← goC_rot]
  refine goC_cut (fun σ' H' => H' = H ++ [(CK.own, [I k, I a, I b, I c])] ∧ Gar 109 [(3, .ref H.length 0), (5, .bool pr), (6, .bool (a == 0 && b == 0)), (46, I k)] σ') ?_ ?_
  · simp [gar, List.range, List.range.loop]
    exact .intro (by simp) (by simp)
  rintro σ' H' ⟨rfl, us, rfl⟩
  have hk : k = 0 ∨ k = 1 ∨ k = 2 ∨ k = 3 ∨ k = 4 ∨ k = 5 ∨ (k ≠ 0 ∧ k ≠ 1 ∧ k ≠ 2 ∧ k ≠ 3 ∧ k ≠ 4 ∧ k ≠ 5) := by omega
  rcases hk with rfl | rfl | rfl | rfl | rfl | rfl | ⟨k0, k1, k2, k3, k4, k5⟩
  · cases h0 : a == 0 && b == 0
    · simp [gar, List.range, List.range.loop]
      simp [clueOk, h0]
    · simp [gar, List.range, List.range.loop]
      refine goCall_pure rfl ⟨_, _, _, rfl, rfl⟩ (by simp) ?_
      simp [clueOk, h0]
  · rw [show clueOk n ⟨1, a, b, c⟩ = (pr && inR 0 1 c) by rw [hpr]; rfl]
    cases pr
    · simp [gar, List.range, List.range.loop]
    · simp [gar, List.range, List.range.loop]
      refine goCall_pure rfl ⟨_, _, _, rfl, rfl⟩ (by simp) ?_
      simp
  · simp [gar, List.range, List.range.loop]
    refine goCall_pure rfl ⟨_, _, _, rfl, rfl⟩ (by simp) ?_
    cases h0 : inR 6 24 a
    · simp [clueOk, h0]
    · by_cases hb : b = 0
      · simp [hb]
        refine goCall_pure rfl ⟨_, _, _, rfl, rfl⟩ (by simp) ?_
        simp [clueOk, h0, hb]
      · simp [clueOk, h0, hb]
  · simp [gar, List.range, List.range.loop]
    refine goCall_pure rfl ⟨_, _, _, rfl, rfl⟩ (by simp) ?_
    cases h0 : inR 1 24 a
    · simp [clueOk, h0]
    · by_cases hb : b = 0
      · simp [hb]
        refine goCall_pure rfl ⟨_, _, _, rfl, rfl⟩ (by simp) ?_
        simp [clueOk, h0, hb]
      · simp [clueOk, h0, hb]
  · rw [show clueOk n ⟨4, a, b, c⟩ = (pr && inR 1 36 c) by rw [hpr]; rfl]
    cases pr
    · simp [gar, List.range, List.range.loop]
    · simp [gar, List.range, List.range.loop]
      refine goCall_pure rfl ⟨_, _, _, rfl, rfl⟩ (by simp) ?_
      simp
  · cases h0 : a == 0 && b == 0
    · simp [gar, List.range, List.range.loop]
      simp [clueOk, h0]
    · simp [gar, List.range, List.range.loop]
      refine goCall_pure rfl ⟨_, _, _, rfl, rfl⟩ (by simp) ?_
      simp [clueOk, h0]
  · simp [gar, List.range, List.range.loop, k0, k1, k2, k3, k4, k5]
    simp [clueOk, k0, k1, k2, k3, k4, k5]
/- impl.areRoomy -/
def R97 : Rel := fun _ vs _ rs _ => ∃ v xs room, vs = [v, I room] ∧ Sl 3 I v xs ∧ rs = [.bool (inR 1 9 xs.length && xs.all (inR 1 100) && inR (maxL xs) 1000 room)]
theorem v97 : SpecR Try.prog 97 sg97 R97 := by
  refine fnZ 11 (by kernel_rfl) (fn := Try.f97) (by kernel_rfl) (by kernel_rfl) (k97 R99 R84 R58) (by kernel_rfl) ⟨v99, v84, v58, trivial⟩ ?_
  rintro lim vs H rs H' ⟨v, xs, room, rfl, hv, rfl⟩ - - -
  simp [c97, l97, List.replicate]
  refine goCall_pure rfl ⟨_, xs, rfl, hv, rfl⟩ (by simp) ?_
  cases h1 : inR 1 9 xs.length && xs.all (inR 1 100)
  · simp
  · have h1' := h1
    simp only [inR, Bool.and_eq_true, decide_eq_true_eq, List.all_eq_true] at h1'
    simp
    refine goCall_pure rfl ⟨v, xs, rfl, hv, by rintro rfl; simp at h1', fun x hx => by have := h1'.2 x hx; omega, rfl⟩ (by simp) ?_
    simp
    refine goCall_pure rfl ⟨_, _, _, rfl, rfl⟩ (by simp) ?_
    simp
end Go.Proofs.Ytfljbfgceilppaa
set_option autoImplicit false
set_option linter.unusedVariables false
set_option linter.unusedSimpArgs false
set_option linter.unnecessarySimpa false
namespace Go.Proofs.Ytfljbfgceilppaa
open Go.Den
/- impl.fewest$1 -/
def R106 : Rel := fun lim vs H rs H' => ∃ p r old, vs = [.sl 3 p, .ref r 0] ∧ H[r]? = some (.own, [old]) ∧ lim ≤ r ∧ rs = [.bool false] ∧ H' = H.set r (.own, [.sl 3 p])
theorem v106 : SpecR Try.prog 106 sg106 R106 := by
  refine fnZ 3 (by kernel_rfl) (fn := Try.f106) (by kernel_rfl) (by kernel_rfl) k106 (by kernel_rfl) trivial ?_
  rintro lim vs H rs H' ⟨p, r, old, rfl, hr, hlim, rfl, rfl⟩ - - -
  simp [c106, List.replicate, hr]
/- impl.plans$1 -/
def Rr107 (n : Nat) : Rel := fun lim vs H rs H' => ∃ vp v vl xs plan loads room, ∃ most : Nat, ∃ rt re rm rr rc ro ckt old, vs = [vp, vl, .ref rt 0, .ref re 0, .ref rm 0, .ref rr 0, .ref rc 0] ∧
  H[rt]? = some (ckt, [v]) ∧ viewV lim rt ckt = .sh ∧ H[re]? = some (.fn, [.fn 106 [.ref ro 0]]) ∧ H[rm]? = some (.own, [I most]) ∧ lim ≤ rm ∧ H[rr]? = some (.own, [I room]) ∧ lim ≤ rr ∧
  H[rc]? = some (.fn, [.fn 107 [.ref rt 0, .ref re 0, .ref rm 0, .ref rr 0, .ref rc 0]]) ∧ H[ro]? = some (.own, [old]) ∧ lim ≤ ro ∧ ro ≠ rm ∧ ro ≠ rr ∧
  Sl 3 I vp plan ∧ 0 < xs.length ∧ Sl 3 I v xs ∧ Sl 3 I vl loads ∧ plan.length ≤ xs.length ∧ xs.length - plan.length < n ∧ xs.length ≤ 9 ∧ loads.length ≤ plan.length ∧ room ≤ 1048576 ∧ most ≤ 1048576 ∧
  (∀ x ∈ xs, 0 ≤ x ∧ x ≤ 1048576) ∧ (∀ x ∈ loads, 0 ≤ x ∧ x ≤ room) ∧
  ((plansL room most (xs.drop plan.length) plan loads = [] ∧ rs = [.bool true] ∧ H' = H) ∨ ∃ p l, plansL room most (xs.drop plan.length) plan loads = p :: l ∧ rs = [.bool false] ∧ H' = H.set ro (.own, [.sl 3 (p.map I)]))
def R107 : Rel := fun lim vs H rs H' => ∃ n, Rr107 n lim vs H rs H'
set_option maxHeartbeats 2000000 in
theorem vr107 (n : Nat) : SpecR Try.prog 107 sg107 (Rr107 n) := by
  induction n with
  | zero => exact specNone (fn := Try.f107) (by kernel_rfl) (by kernel_rfl) (by kernel_rfl) (by rintro lim vs H rs H' ⟨vp, v, vl, xs, plan, loads, room, most, rt, re, rm, rr, rc, ro, ckt, old, _, _, _, _, _, _, _, _, _, _, _, _, _, _, _, _, _, _, h, _⟩; omega)
  | succ n ih =>
    refine fnZ 60 (by kernel_rfl) (fn := Try.f107) (by kernel_rfl) (by kernel_rfl) (k107 R72 R106 (Rr107 n)) (by kernel_rfl) ⟨v72, v106, ih, trivial⟩ ?_
    rintro lim vs H rs H' ⟨vp, v, vl, xs, plan, loads, room, most, rt, re, rm, rr, rc, ro, ckt, old, rfl, hrt, hvt, hre, hrm, hlm, hrr, hlr, hrc, hro, hlo, hne1, hne2, hvp, hx0, hv, hl, hpl, hn, hxl, hll, hroom, hmost, hxs, hloads, hres⟩ - - -
    have hwl : IntKind.i64.wrap ((loads.length : Int) + 1) = loads.length + 1 := wrap_id (by omega) (by omega)
    by_cases heq : plan.length = xs.length
    · have hdn : xs.drop plan.length = [] := List.drop_eq_nil_of_le (by omega)
      rw [hdn] at hres
      simp only [plansL] at hres
      rcases hres with ⟨h, _⟩ | ⟨p, l, h, rfl, rfl⟩
      · cases h
      obtain ⟨rfl, rfl⟩ := List.cons.inj h
      obtain rfl : vp = .sl 3 (plan.map I) := by
        rcases hvp.1 with h | ⟨_, h⟩
        · exact h
        · rw [h] at heq; simp at heq; omega
      simp [c107, l107, List.replicate, hrt, hre, hv.len, heq]
      refine goCall_imp rfl ⟨plan.map I, ro, old, rfl, hro, hlo, rfl, rfl⟩ ⟨by simp, by simp only [argV, hro]; exact viewV_own hlo, trivial⟩ ?_
      simp [mergeH_set hro (keepB_own hlo)]
    · have hlt : plan.length < xs.length := by omega
      have hd : xs.drop plan.length = xs[plan.length] :: xs.drop (plan.length + 1) := List.drop_eq_getElem_cons hlt
      rw [hd, plansL_cons] at hres
      obtain ⟨F, hF⟩ : ∃ F : Nat → List (List Int), F = fun b => if (nextL loads b).getD b 0 + xs[plan.length] ≤ room then plansL room most (xs.drop (plan.length + 1)) (plan ++ [(b : Int)]) ((nextL loads b).set b ((nextL loads b).getD b 0 + xs[plan.length])) else [] := ⟨_, rfl⟩
      rw [← hF] at hres
      obtain ⟨M, hM⟩ : ∃ M, M = min (loads.length + 1) most := ⟨_, rfl⟩
      have hMi : min ((loads.length : Int) + 1) most = M := by omega
      rw [← hM] at hres
      have hni : ¬ (plan.length : Int) = xs.length := by omega
      simp [c107, l107, List.replicate, hrt, hrm, hv.len, hl.len, hvp.len, hni, hwl, hMi]
      refine goL_intro (fun n σ H'' => ∃ b : Nat, b ≤ M ∧ n = M - b ∧ (∀ k, k < b → F k = []) ∧ H'' = H ∧ σ = slots 67 [(0, vp), (1, vl), (2, .ref rt 0), (5, .ref rr 0), (6, .ref rc 0), (10, I plan.length), (26, I M), (27, I b)]) M ⟨0, by omega, by omega, by omega, rfl, by simp [slots, List.replicate]⟩ ?_
      rintro n σ H'' ⟨b, hbM, rfl, hmin, rfl, rfl⟩
      simp [slots, List.replicate, hl.len]
      refine ⟨fun hbl => ?_, fun hge => ?_⟩
      · have hb1 : b ≤ loads.length := by omega
        have hsl0 : Sl 3 I (.sl 3 [I 0]) [0] := ⟨.inl rfl, by simp⟩
        have happ := hl.app1 hsl0 (by simp) (by simp; omega)
        refine goCall_pure rfl ⟨vl, loads, rfl, hl, by omega, rfl⟩ (by simp) ?_
        obtain ⟨nx, hnx⟩ : ∃ nx, nx = nextL loads b := ⟨_, rfl⟩
        obtain ⟨hnb, hnl⟩ := nextL_len hb1
        rw [← hnx] at hnb hnl
        have hy : ∀ y ∈ nx, 0 ≤ y ∧ (y ≤ room ∨ y = 0) := by
          intro y hy
          rw [hnx, nextL] at hy
          split at hy
          · simp at hy
            rcases hy with hy | rfl
            · exact ⟨(hloads y hy).1, .inl (hloads y hy).2⟩
            · simp
          · exact ⟨(hloads y hy).1, .inl (hloads y hy).2⟩
        have hyb := hy _ (List.getElem_mem hnb)
        have hxb := hxs _ (List.getElem_mem hlt)
        have hgd : nx.getD b 0 = nx[b] := by simp [List.getD, hnb]
        have hFb : F b = if nx[b] + xs[plan.length] ≤ room then plansL room most (xs.drop (plan.length + 1)) (plan ++ [(b : Int)]) (nx.set b (nx[b] + xs[plan.length])) else [] := by
          rw [hF]; simp only [← hnx, hgd]
        have hwr : IntKind.i64.wrap (nx[b] + xs[plan.length]) = nx[b] + xs[plan.length] := wrap_id (by omega) (by omega)
        have hwb' : IntKind.i64.wrap ((b : Int) + 1) = b + 1 := wrap_id (by omega) (by omega)
        by_cases hle : nx[b] + xs[plan.length] ≤ room
        · rw [if_pos hle] at hFb
          have hap : appV 3 8 true vp (.sl 3 [I b]) = some (.sl 3 ((plan ++ [(b : Int)]).map I)) := hvp.app1 (⟨.inl rfl, by simp⟩ : Sl 3 I (.sl 3 [I b]) [(b : Int)]) (by simp) (by simp; omega)
          have hlp : (plan ++ [(b : Int)]).length = plan.length + 1 := by simp
          simp [hl.len, happ, hl.undef]
          refine ⟨fun hbl => ?_, fun hbl => ?_⟩
          focus
            have e : loads.map I ++ [I 0] = nx.map I := by rw [hnx, nextL, if_pos (by omega)]; simp
            rw [e]
            have hlb : b < loads.length + 1 := by omega
            simp [hrt, hrr, hrc, hv.iadd hlt, hv.elem hlt, hnb, hlb, hwr, hle]
          rotate_left
          focus
            obtain rfl : vl = .sl 3 (loads.map I) := by
              rcases hl.1 with h | ⟨_, h⟩
              · exact h
              · rw [h] at hb1 hbl; simp at hb1 hbl; omega
            have e : loads.map I = nx.map I := by rw [hnx, nextL, if_neg (by omega)]
            rw [e]
            have hlb : b < loads.length := by omega
            simp [hrt, hrr, hrc, hv.iadd hlt, hv.elem hlt, hnb, hlb, hwr, hle]
          all_goals
            refine goCall_pure rfl ⟨_, plan, rfl, hvp, by omega, rfl⟩ (by simp) ?_
            simp [hap]
            have hcall : ∀ rs' H2, ((F b = [] ∧ rs' = [.bool true] ∧ H2 = H'') ∨ ∃ p l, F b = p :: l ∧ rs' = [.bool false] ∧ H2 = H''.set ro (.own, [.sl 3 (p.map I)])) → Rr107 n lim [.sl 3 (plan.map I ++ [I b]), .sl 3 ((nx.map I).set b (.int .i64 (nx[b] + xs[plan.length]))), .ref rt 0, .ref re 0, .ref rm 0, .ref rr 0, .ref rc 0] H'' rs' H2 := by
              intro rs' H2 h
              refine ⟨.sl 3 ((plan ++ [(b : Int)]).map I), v, .sl 3 ((nx.set b (nx[b] + xs[plan.length])).map I), xs, plan ++ [(b : Int)], nx.set b (nx[b] + xs[plan.length]), room, most, rt, re, rm, rr, rc, ro, ckt, old, by simp [List.map_set], hrt, hvt, hre, hrm, hlm, hrr, hlr, hrc, hro, hlo, hne1, hne2, ⟨.inl rfl, by omega⟩, hx0, hv, ⟨.inl rfl, by rw [List.length_set]; omega⟩, by omega, by omega, hxl, by rw [List.length_set]; omega, hroom, hmost, hxs, ?_, by rw [hlp, ← hFb]; exact h⟩
              intro y hy'
              rcases List.mem_or_eq_of_mem_set hy' with hy' | rfl
              · have := hy y hy'; omega
              · omega
            have hargs : argsV lim H'' sg107.ps [.sl 3 (plan.map I ++ [I b]), .sl 3 ((nx.map I).set b (.int .i64 (nx[b] + xs[plan.length]))), .ref rt 0, .ref re 0, .ref rm 0, .ref rr 0, .ref rc 0] :=
              ⟨by simp, trivial, by simp only [argV, hrt]; exact hvt, by simp only [argV, hre]; exact viewV_fn, by simp only [argV, hrm]; exact viewV_own hlm, by simp only [argV, hrr]; exact viewV_own hlr, by simp only [argV, hrc]; exact viewV_fn, trivial⟩
            rcases hFc : F b with _ | ⟨p, l⟩
            · refine goCall_imp rfl (hcall [.bool true] H'' (.inl ⟨hFc, rfl, rfl⟩)) hargs ?_
              simp [mergeH_self, hwb']
              exact ⟨M - (b + 1), by omega, b + 1, by omega, rfl, fun k hk => by rcases Nat.lt_or_ge k b with h | h; exact hmin k h; rw [show k = b by omega, hFc], by omega⟩
            · obtain ⟨l', htot⟩ := flatMap_first hmin hFc (show b < M by omega)
              rw [htot] at hres
              rcases hres with ⟨h, _⟩ | ⟨p', l2, h, rfl, rfl⟩
              · cases h
              obtain ⟨rfl, rfl⟩ := List.cons.inj h
              refine goCall_imp rfl (hcall [.bool false] _ (.inr ⟨p, l, hFc, rfl, rfl⟩)) hargs ?_
              simp [mergeH_set hro (keepB_own hlo)]
        · rw [if_neg hle] at hFb
          simp [hl.len, happ, hl.undef]
          refine ⟨fun hbl => ?_, fun hbl => ?_⟩
          focus
            have e : loads.map I ++ [I 0] = nx.map I := by rw [hnx, nextL, if_pos (by omega)]; simp
            rw [e]
            have hlb : b < loads.length + 1 := by omega
            simp [hrt, hrr, hrc, hv.iadd hlt, hv.elem hlt, hnb, hlb, hwr, hle]
          rotate_left
          focus
            obtain rfl : vl = .sl 3 (loads.map I) := by
              rcases hl.1 with h | ⟨_, h⟩
              · exact h
              · rw [h] at hb1 hbl; simp at hb1 hbl; omega
            have e : loads.map I = nx.map I := by rw [hnx, nextL, if_neg (by omega)]
            rw [e]
            have hlb : b < loads.length := by omega
            simp [hrt, hrr, hrc, hv.iadd hlt, hv.elem hlt, hnb, hlb, hwr, hle]
          all_goals
            exact ⟨M - (b + 1), by omega, b + 1, by omega, rfl, fun k hk => by rcases Nat.lt_or_ge k b with h | h; exact hmin k h; rw [show k = b by omega, hFb], by rw [hwb']; simp⟩
      · have : (List.range M).flatMap F = [] := by
          rw [List.flatMap_eq_nil_iff]
          intro k hk
          exact hmin k (by have := List.mem_range.1 hk; omega)
        rcases hres with ⟨_, rfl, rfl⟩ | ⟨p, l, h, _⟩
        · simp
        · rw [this] at h; cases h
theorem v107 : SpecR Try.prog 107 sg107 R107 := specEx vr107
end Go.Proofs.Ytfljbfgceilppaa
set_option autoImplicit false
set_option linter.unusedVariables false
set_option linter.unusedSimpArgs false
set_option linter.unnecessarySimpa false
namespace Go.Proofs.Ytfljbfgceilppaa
open Go.Den
/- impl.plans -/
def tailP (f g : Nat) (v : PV) (room : Int) (most ro n : Nat) : Boxes := [(.sh, [v]), (.own, [I room]), (.own, [I most]), (.fn, [.fn f [.ref ro 0]]), (.fn, [.fn g [.ref n 0, .ref (n + 3) 0, .ref (n + 2) 0, .ref (n + 1) 0, .ref (n + 4) 0]])]
def R105 : Rel := fun lim vs H rs H' => ∃ v xs room, ∃ most : Nat, ∃ ro old, vs = [v, I room, I most, .fn 106 [.ref ro 0]] ∧ H[ro]? = some (.own, [old]) ∧ lim ≤ ro ∧
  Sl 3 I v xs ∧ 0 < xs.length ∧ xs.length ≤ 9 ∧ room ≤ 1048576 ∧ most ≤ 1048576 ∧ (∀ x ∈ xs, 0 ≤ x ∧ x ≤ 1048576) ∧
  ((plansL room most xs [] [] = [] ∧ rs = [.bool true] ∧ H' = H ++ tailP 106 107 v room most ro H.length) ∨ ∃ p l, plansL room most xs [] [] = p :: l ∧ rs = [.bool false] ∧ H' = H.set ro (.own, [.sl 3 (p.map I)]) ++ tailP 106 107 v room most ro H.length)
theorem v105 : SpecR Try.prog 105 sg105 R105 := by
  refine fnZ 9 (by kernel_rfl) (fn := Try.f105) (by kernel_rfl) (by kernel_rfl) (k105 R107) (by kernel_rfl) ⟨v107, trivial⟩ ?_
  rintro lim vs H rs H' ⟨v, xs, room, most, ro, old, rfl, hro, hlo, hv, hx0, hxl, hroom, hmost, hxs, hres⟩ - - -
  simp [c105, l105, List.replicate, hv.undef, hv.cells]
  obtain ⟨T, hT⟩ : ∃ T, T = tailP 106 107 v room most ro H.length := ⟨_, rfl⟩
  rw [← hT] at hres
  have hrl : ro < H.length := H_lt hro
  have hro' : (H ++ T)[ro]? = some (.own, [old]) := by rw [List.getElem?_append_left hrl]; exact hro
  have e : ∀ i, (H ++ T)[H.length + i]? = T[i]? := fun i => by rw [List.getElem?_append_right (by omega)]; congr 1; omega
  have e0 : (H ++ T)[H.length]? = T[0]? := e 0
  have hcall : ∀ rs' H2, ((plansL room most xs [] [] = [] ∧ rs' = [.bool true] ∧ H2 = H ++ T) ∨ ∃ p l, plansL room most xs [] [] = p :: l ∧ rs' = [.bool false] ∧ H2 = (H ++ T).set ro (.own, [.sl 3 (p.map I)])) → R107 lim [.nil, .nil, .ref H.length 0, .ref (H.length + 3) 0, .ref (H.length + 2) 0, .ref (H.length + 1) 0, .ref (H.length + 4) 0] (H ++ T) rs' H2 := by
    intro rs' H2 h
    refine ⟨xs.length + 1, .nil, v, .nil, xs, [], [], room, most, H.length, H.length + 3, H.length + 2, H.length + 1, H.length + 4, ro, .sh, old, rfl, by rw [e0, hT]; rfl, by simp [viewV], by rw [e 3, hT]; rfl, by rw [e 2, hT]; rfl, by omega, by rw [e 1, hT]; rfl, by omega, by rw [e 4, hT]; rfl, hro', hlo, by omega, by omega, .nil0, hx0, hv, .nil0, by simp, by simp, hxl, by simp, hroom, hmost, hxs, by simp, h⟩
  have hargs : argsV lim (H ++ T) sg107.ps [.nil, .nil, .ref H.length 0, .ref (H.length + 3) 0, .ref (H.length + 2) 0, .ref (H.length + 1) 0, .ref (H.length + 4) 0] := by
    refine ⟨by simp, trivial, ?_, ?_, ?_, ?_, ?_, trivial⟩
    · simp only [argV]; rw [e0, hT]; simp [tailP, viewV]
    · simp only [argV]; rw [e 3, hT]; simp [tailP, viewV]
    · simp only [argV]; rw [e 2, hT]; exact viewV_own (by omega)
    · simp only [argV]; rw [e 1, hT]; exact viewV_own (by omega)
    · simp only [argV]; rw [e 4, hT]; simp [tailP, viewV]
  have hm := fun new => mergeH_set (new := new) hro' (keepB_own hlo)
  subst hT
  simp only [tailP] at hcall hargs hm hres hro'
  rcases hres with ⟨h, rfl, rfl⟩ | ⟨p, l, h, rfl, rfl⟩
  · refine goCall_imp rfl (hcall [.bool true] _ (.inl ⟨h, rfl, rfl⟩)) hargs ?_
    simp [mergeH_self]
  · refine goCall_imp rfl (hcall [.bool false] _ (.inr ⟨p, l, h, rfl, rfl⟩)) hargs ?_
    simp only [hm]
    simp [List.set_append, hrl]
end Go.Proofs.Ytfljbfgceilppaa
set_option autoImplicit false
set_option linter.unusedVariables false
set_option linter.unusedSimpArgs false
set_option linter.unnecessarySimpa false
namespace Go.Proofs.Ytfljbfgceilppaa
open Go.Den
/- impl.fewest -/
def R98 : Rel := fun _ vs _ rs _ => ∃ v xs room, vs = [v, I room] ∧ Sl 3 I v xs ∧ xs ≠ [] ∧ xs.length ≤ 9 ∧ 0 ≤ room ∧ room ≤ 1048576 ∧ (∀ x ∈ xs, 0 ≤ x ∧ x ≤ room) ∧ ∃ p l, plansL room (few room xs) xs [] [] = p :: l ∧ rs = [.sl 3 (p.map I)]
theorem v98 : SpecR Try.prog 98 sg98 R98 := by
  refine fnZ 14 (by kernel_rfl) (fn := Try.f98) (by kernel_rfl) (by kernel_rfl) (k98 R105) (by kernel_rfl) ⟨v105, trivial⟩ ?_
  rintro lim vs H rs H' ⟨v, xs, room, rfl, hv, hne, hl, hr0, hr1, hxs, p, l, hpl, rfl⟩ - hlim -
  have hpos := List.length_pos_iff.2 hne
  have h0 : plansL room 0 xs [] [] = [] := by
    cases xs with
    | nil => exact absurd rfl hne
    | cons x xs => simp [plansL_cons]
  simp [c98, List.replicate, hv.len]
  refine goL_intro (fun n σ H'' => ∃ m : Nat, 1 ≤ m ∧ m ≤ xs.length ∧ n = xs.length - m ∧ (∀ k, k < m → plansL room k xs [] [] = []) ∧ lim ≤ H''.length ∧ σ = slots 16 [(0, v), (1, I room), (5, I m)]) (xs.length - 1) ⟨1, by omega, by omega, by omega, fun k hk => by rw [show k = 0 by omega, h0], hlim, by simp [slots, List.replicate]⟩ ?_
  rintro n σ H'' ⟨m, hm1, hm2, rfl, hmin, hlim2, rfl⟩
  simp [slots, List.replicate, l98]
  have hro : (H'' ++ [(CK.own, [PV.nil])])[H''.length]? = some (.own, [.nil]) := by simp
  have hm := fun new => mergeH_set (new := new) hro (keepB_own hlim2)
  by_cases he : plansL room m xs [] [] = []
  · have hlt : m < xs.length := by
      rcases Nat.lt_or_ge m xs.length with h | h
      · exact h
      · exact absurd he (plansL_some (by simp; omega) fun x hx => (hxs x hx).2)
    refine goCall_imp rfl ⟨v, xs, room, m, H''.length, .nil, rfl, hro, hlim2, hv, hpos, hl, hr1, by omega, fun x hx => by have := hxs x hx; omega, .inl ⟨he, rfl, rfl⟩⟩ (by simp) ?_
    rw [mergeH_tail rfl, mergeH_self]
    simp
    refine ⟨xs.length - (m + 1), by omega, m + 1, by omega, by omega, rfl, ?_, by omega, ?_⟩
    · intro k hk
      rcases Nat.lt_or_ge k m with h | h
      · exact hmin k h
      · rw [show k = m by omega, he]
    · rw [wrap_id (by omega) (by omega)]; simp
  · have hf := few_eq hm2 he hmin
    rw [hf] at hpl
    refine goCall_imp rfl ⟨v, xs, room, m, H''.length, .nil, rfl, hro, hlim2, hv, hpos, hl, hr1, by omega, fun x hx => by have := hxs x hx; omega, .inr ⟨p, l, hpl, rfl, rfl⟩⟩ (by simp) ?_
    rw [mergeH_tail (by simp), hm]
    simp
end Go.Proofs.Ytfljbfgceilppaa
set_option autoImplicit false
set_option linter.unusedVariables false
set_option linter.unusedSimpArgs false
set_option linter.unnecessarySimpa false
namespace Go.Proofs.Ytfljbfgceilppaa
open Go.Den
/- impl.FewestBoxes -/
def R82 : Rel := fun _ vs _ rs _ => ∃ v xs room, vs = [v, I room] ∧ Sl 3 I v xs ∧ (inR 1 9 xs.length && xs.all (inR 1 100) && inR (maxL xs) 1000 room) = true ∧ rs = [I (few room xs), .bool true]
theorem v82 : SpecR Try.prog 82 sg82 R82 := by
  refine fnZ 13 (by kernel_rfl) (fn := Try.f82) (by kernel_rfl) (by kernel_rfl) (k82 R97 R98 R84) (by kernel_rfl) ⟨v97, v98, v84, trivial⟩ ?_
  rintro lim vs H rs H' ⟨v, xs, room, rfl, hv, hr, rfl⟩ - - -
  have h1 := hr
  simp only [inR, Bool.and_eq_true, decide_eq_true_eq, List.all_eq_true] at h1
  obtain ⟨⟨h11, h12⟩, h13⟩ := h1
  obtain ⟨a1, a2, a3⟩ := maxL_aux (xs := xs) (a := 0)
  have hne : xs ≠ [] := by rintro rfl; simp at h11
  have hxr : ∀ x ∈ xs, 0 ≤ x ∧ x ≤ room := fun x hx => by have := h12 x hx; have := a2 x hx; unfold maxL at h13; omega
  have hr0 : 0 ≤ room := by unfold maxL at h13; omega
  obtain ⟨f1, f2, f3, f4⟩ := few_spec hne fun x hx => (hxr x hx).2
  simp [c82, l82, List.replicate]
  refine goCall_pure rfl ⟨_, xs, _, rfl, hv, rfl⟩ (by simp) ?_
  rw [hr]
  rcases hp : plansL room (few room xs) xs [] [] with _ | ⟨p, l⟩
  · exact absurd hp f3
  have hfm := few_max f1 hp f4
  obtain ⟨s, hs1, hs2, hs3⟩ := plansL_mem (p := p) (by rw [hp]; simp)
  simp at hs1; subst hs1
  have hpl : 0 < p.length := by rw [hs2]; exact List.length_pos_iff.2 hne
  simp
  refine goCall_pure rfl ⟨v, xs, room, rfl, hv, hne, by omega, hr0, by omega, hxr, p, l, hp, rfl⟩ (by simp) ?_
  simp
  refine goCall_pure rfl ⟨_, p, rfl, ⟨.inl rfl, by omega⟩, by rintro rfl; simp at hpl, fun x hx => (hs3 x hx).1, rfl⟩ (by simp) ?_
  simp
  rw [hfm, wrap_id (by omega) (by omega)]
end Go.Proofs.Ytfljbfgceilppaa
set_option autoImplicit false
set_option linter.unusedVariables false
set_option linter.unusedSimpArgs false
set_option linter.unnecessarySimpa false
namespace Go.Proofs.Ytfljbfgceilppaa
open Go.Den
/- impl.ExactFill$1 -/
def Rr100 (n : Nat) : Rel := fun _ vs H rs _ => ∃ vp v xs list, ∃ i : Nat, ∃ left rt rf ck, vs = [vp, I i, I left, .ref rt 0, .ref rf 0] ∧ H[rt]? = some (ck, [v]) ∧ ck ≠ .fn ∧ H[rf]? = some (.fn, [.fn 100 [.ref rt 0, .ref rf 0]]) ∧
  Sl 3 I v xs ∧ xs.length ≤ 9 ∧ (∀ x ∈ xs, 1 ≤ x ∧ x ≤ 1048576) ∧ Sl 3 I vp list ∧ list.length ≤ i ∧ (left = 0 → vp = .sl 3 (list.map I)) ∧ i ≤ xs.length ∧ xs.length - i < n ∧ 0 ≤ left ∧ left ≤ 1048576 ∧
  rs = [outV 3 (fillF (xs.drop i) i left list), .bool (fillF (xs.drop i) i left list).isSome]
def R100 : Rel := fun lim vs H rs H' => ∃ n, Rr100 n lim vs H rs H'
set_option maxHeartbeats 2000000 in
theorem vr100 (n : Nat) : SpecR Try.prog 100 sg100 (Rr100 n) := by
  induction n with
  | zero => exact specNone (fn := Try.f100) (by kernel_rfl) (by kernel_rfl) (by kernel_rfl) (by rintro lim vs H rs H' ⟨vp, v, xs, list, i, left, rt, rf, ck, _, _, _, _, _, _, _, _, _, _, _, h, _⟩; omega)
  | succ n ih =>
    refine fnZ 44 (by kernel_rfl) (fn := Try.f100) (by kernel_rfl) (by kernel_rfl) (k100 R72 (Rr100 n)) (by kernel_rfl) ⟨v72, ih, trivial⟩ ?_
    rintro lim vs H rs H' ⟨vp, v, xs, list, i, left, rt, rf, ck, rfl, hrt, hck, hrf, hv, hxl, hxs, hvp, hli, hl0, hi, hn, hl1, hl2, rfl⟩ - - -
    by_cases h0 : left = 0
    · subst h0
      obtain rfl := hl0 rfl
      simp [c100, l100, List.replicate]
      simp [fillF, outV]
    · rw [fillF, if_neg h0]
      simp [c100, l100, List.replicate, h0]
      refine goL_intro (fun n σ H'' => ∃ j : Nat, i ≤ j ∧ j ≤ xs.length ∧ n = xs.length - j ∧ loopF (xs.drop i) i left list = loopF (xs.drop j) j left list ∧ H'' = H ∧ σ = slots 49 [(0, vp), (2, I left), (3, .ref rt 0), (4, .ref rf 0), (10, I j)]) (xs.length - i) ⟨i, by omega, by omega, rfl, rfl, rfl, by simp [slots, List.replicate]⟩ ?_
      rintro n' σ H'' ⟨j, hij, hj, rfl, hL, rfl, rfl⟩
      simp [slots, List.replicate, hrt, hv.len]
      refine ⟨fun hlt => ?_, fun hge => ?_⟩
      · have hd : xs.drop j = xs[j] :: xs.drop (j + 1) := List.drop_eq_getElem_cons hlt
        rw [hd, loopF_cons] at hL
        have hxj := hxs _ (List.getElem_mem hlt)
        have hwj : IntKind.i64.wrap ((j : Int) + 1) = j + 1 := wrap_id (by omega) (by omega)
        by_cases hlx : left < xs[j]
        · rw [if_pos hlx] at hL
          simp [hrt, hv.iadd hlt, hv.elem hlt, hlx, hwj]
          exact ⟨xs.length - (j + 1), by omega, j + 1, by omega, by omega, rfl, hL, by omega⟩
        · rw [if_neg hlx] at hL
          have hwl : IntKind.i64.wrap (left - xs[j]) = left - xs[j] := wrap_id (by omega) (by omega)
          have hap : appV 3 8 true vp (.sl 3 [I j]) = some (.sl 3 ((list ++ [(j : Int)]).map I)) := hvp.app1 (⟨.inl rfl, by simp⟩ : Sl 3 I (.sl 3 [I j]) [(j : Int)]) (by simp) (by simp; omega)
          simp [hrt, hrf, hv.iadd hlt, hv.elem hlt, hlx, hwj, hwl]
          refine goCall_pure rfl ⟨_, list, rfl, hvp, by omega, rfl⟩ (by simp) ?_
          simp [hrt, hrf, hv.iadd hlt, hv.elem hlt, hlx, hwj, hwl, hap]
          refine goCall_pure rfl ⟨.sl 3 ((list ++ [(j : Int)]).map I), v, xs, list ++ [(j : Int)], j + 1, left - xs[j], rt, rf, ck, by simp, hrt, hck, hrf, hv, hxl, hxs, ⟨.inl rfl, by simp; omega⟩, by simp; omega, fun _ => rfl, by omega, by omega, by omega, by omega, rfl⟩ ?_ ?_
          · exact ⟨by simp, trivial, trivial, argV_sh hrt hck, by simp [argV, hrf, viewV], trivial⟩
          · cases hq : fillF (xs.drop (j + 1)) (j + 1) (left - xs[j]) (list ++ [(j : Int)]) with
            | none =>
              rw [hq] at hL
              simp [outV, hwj]
              exact ⟨xs.length - (j + 1), by omega, j + 1, by omega, by omega, rfl, hL, by omega⟩
            | some l =>
              rw [hq] at hL
              simp [outV, hL]
      · rw [List.drop_eq_nil_of_le hge] at hL
        simp [hL, loopF, outV]
theorem v100 : SpecR Try.prog 100 sg100 R100 := specEx vr100
end Go.Proofs.Ytfljbfgceilppaa
set_option autoImplicit false
set_option linter.unusedVariables false
set_option linter.unusedSimpArgs false
set_option linter.unnecessarySimpa false
namespace Go.Proofs.Ytfljbfgceilppaa
open Go.Den
/- impl.ExactFill -/
def R83 : Rel := fun _ vs _ rs _ => ∃ v xs room, vs = [v, I room] ∧ Sl 3 I v xs ∧ (inR 1 9 xs.length && xs.all (inR 1 100)) = true ∧ inR 1 1000 room = true ∧ rs = [outV 3 (fillF xs 0 room []), .bool (subS xs room)]
theorem v83 : SpecR Try.prog 83 sg83 R83 := by
  refine fnZ 19 (by kernel_rfl) (fn := Try.f83) (by kernel_rfl) (by kernel_rfl) (k83 R99 R58 R100) (by kernel_rfl) ⟨v99, v58, v100, trivial⟩ ?_
  rintro lim vs H rs H' ⟨v, xs, room, rfl, hv, h1, h2, rfl⟩ - - -
  have h1' := h1
  have h2' := h2
  simp only [inR, Bool.and_eq_true, decide_eq_true_eq, List.all_eq_true] at h1' h2'
  simp [c83, l83, List.replicate, hv.undef, hv.cells]
  refine goCall_pure rfl ⟨_, xs, rfl, hv, rfl⟩ (by simp) ?_
  rw [h1]
  simp
  refine goCall_pure rfl ⟨_, _, _, rfl, rfl⟩ (by simp) ?_
  rw [h2]
  simp
  have hok := fillF_ok (xs := xs) (i := 0) (left := room) (list := []) (fun x hx => by have := h1'.2 x hx; omega) (by omega)
  rw [← hok]
  refine goCall_pure rfl ⟨xs.length + 1, .nil, v, xs, [], 0, room, H.length, H.length + 1, .sh, rfl, by simp, by simp, by simp, hv, by omega, fun x hx => by have := h1'.2 x hx; omega, .nil0, by simp, fun h => by omega, by omega, by omega, by omega, by omega, rfl⟩ ?_ ?_
  · exact ⟨by simp, trivial, trivial, by simp [argV, viewV], by simp [argV, viewV], trivial⟩
  · simp
/- impl.told -/
def R60 : Rel := fun _ vs _ rs _ => ∃ v xs k a b, vs = [I k, I a, I b, v] ∧ Sl 3 I v xs ∧ hid xs = true ∧ tellOk k a b xs ∧ rs = [I (tellV k a b xs)]
set_option maxHeartbeats 4000000 in
theorem v60 : SpecR Try.prog 60 sg60 R60 := by
  refine fnZ 58 (by kernel_rfl) (fn := Try.f60) (by kernel_rfl) (by kernel_rfl) (k60 R80 R81 R82 R83 R84) (by kernel_rfl) ⟨v80, v81, v82, v83, v84, trivial⟩ ?_
  rintro lim vs H rs H' ⟨v, xs, k, a, b, rfl, hv, hh, ht, rfl⟩ - - -
  obtain ⟨hl1, hl2, hx⟩ := hid_spec hh
  have hk : k = 0 ∨ k = 1 ∨ k = 2 ∨ k = 3 ∨ k = 4 ∨ (k ≠ 0 ∧ k ≠ 1 ∧ k ≠ 2 ∧ k ≠ 3 ∧ k ≠ 4) := by omega
  have hne : xs ≠ [] := by rintro rfl; simp at hl1
  have hthings : (inR 1 9 xs.length && xs.all (inR 1 100)) = true := by
    have := hid_room (a := 6) hh (by omega) (by omega)
    simp only [Bool.and_eq_true] at this ⊢
    exact this.1
  simp only [c60, l60]
  rcases hk with rfl | rfl | rfl | rfl | rfl | ⟨k0, k1, k2, k3, k4⟩
  · simp [List.replicate]
    refine goCall_pure rfl ⟨v, xs, rfl, hv, ⟨by omega, fun n hn => by have := hx n hn; omega⟩, rfl⟩ (by simp) ?_
    simp [tellV]
  · obtain ⟨i, hi, rfl⟩ := natIdx (ht.1 (.inl rfl)).1 (ht.1 (.inl rfl)).2.1
    obtain ⟨j, hj, rfl⟩ := natIdx (ht.1 (.inl rfl)).2.2.1 (ht.1 (.inl rfl)).2.2.2
    simp [List.replicate, hv.iadd hi, hv.elem hi, hv.iadd hj, hv.elem hj]
    refine goCall_pure rfl ⟨_, rfl, rfl⟩ (by simp) ?_
    simp [tellV, getI_nat hi, getI_nat hj]
  · simp [List.replicate]
    have h24 := ht.2.1 rfl
    refine goCall_pure rfl ⟨v, xs, a, rfl, hv, hid_room hh h24.1 h24.2, rfl⟩ (by simp) ?_
    simp [tellV]
  · simp [List.replicate]
    have h24 := ht.2.2 rfl
    refine goCall_pure rfl ⟨v, xs, a, rfl, hv, hthings, by simp [inR]; omega, rfl⟩ (by simp) ?_
    simp
    refine goCall_pure rfl ⟨_, rfl, rfl⟩ (by simp) ?_
    simp [tellV]
  · obtain ⟨i, hi, rfl⟩ := natIdx (ht.1 (.inr rfl)).1 (ht.1 (.inr rfl)).2.1
    obtain ⟨j, hj, rfl⟩ := natIdx (ht.1 (.inr rfl)).2.2.1 (ht.1 (.inr rfl)).2.2.2
    simp [List.replicate, hv.iadd hi, hv.elem hi, hv.iadd hj, hv.elem hj]
    have h1 := hx _ (List.getElem_mem hi)
    have h2 := hx _ (List.getElem_mem hj)
    have h3 : 0 ≤ xs[i] * xs[j] := Int.mul_nonneg (by omega) (by omega)
    have h4 : xs[i] * xs[j] ≤ 6 * 6 := Int.mul_le_mul (by omega) (by omega) (by omega) (by omega)
    rw [wrap_id (by omega) (by omega)]
    simp [tellV, getI_nat hi, getI_nat hj]
  · simp [List.replicate, k0, k1, k2, k3, k4]
    refine goCall_pure rfl ⟨v, xs, rfl, hv, hne, fun x h => by have := hx x h; omega, rfl⟩ (by simp) ?_
    simp [tellV, k0, k1, k2, k3, k4]
/- (impl.Clue).fits -/
def R54 : Rel := fun _ vs _ rs _ => ∃ x v xs, vs = [pC x, v] ∧ Sl 3 I v xs ∧ hid xs = true ∧ clueOk xs.length x = true ∧ rs = [.bool (fitsC x xs)]
theorem v54 : SpecR Try.prog 54 sg54 R54 := by
  refine fnZ 14 (by kernel_rfl) (fn := Try.f54) (by kernel_rfl) (by kernel_rfl) (k54 R60) (by kernel_rfl) ⟨v60, trivial⟩ ?_
  rintro lim vs H rs H' ⟨⟨k, a, b, c⟩, v, xs, rfl, hv, hh, hc, rfl⟩ - - -
  have ht := clueOk_tell hc
  simp [c54, l54, List.replicate, pC]
  refine goCall_pure rfl ⟨_, xs, k, a, b, rfl, hv, hh, ht, rfl⟩ (by simp) ?_
  simp [fitsC]
/- impl.DoesFit -/
def R17 : Rel := fun _ vs _ rs _ => ∃ x v xs, vs = [pC x, v] ∧ Sl 3 I v xs ∧ xs.length ≤ 1048576 ∧ rs = [.bool (hid xs && clueOk xs.length x && fitsC x xs), .bool (hid xs && clueOk xs.length x)]
theorem v17 : SpecR Try.prog 17 sg17 R17 := by
  refine fnZ 17 (by kernel_rfl) (fn := Try.f17) (by kernel_rfl) (by kernel_rfl) (k17 R52 R53 R54) (by kernel_rfl) ⟨v52, v53, v54, trivial⟩ ?_
  rintro lim vs H rs H' ⟨⟨k, a, b, c⟩, v, xs, rfl, hv, hl, rfl⟩ - - -
  simp [c17, l17, List.replicate, pC, hv.len]
  refine goCall_pure rfl ⟨_, xs, rfl, hv, rfl⟩ (by simp) ?_
  cases h1 : hid xs
  · simp
  · have h24 : inR 2 4 xs.length = true := by obtain ⟨h3, h4, _⟩ := hid_spec h1; simp [inR]; omega
    simp [hv.len]
    refine goCall_pure rfl ⟨_, ⟨k, a, b, c⟩, rfl, by omega, by omega, rfl⟩ (by simp) ?_
    rw [h24]
    cases h2 : clueOk xs.length ⟨k, a, b, c⟩
    · simp
    · simp
      refine goCall_pure rfl ⟨⟨k, a, b, c⟩, v, xs, rfl, hv, h1, h2, rfl⟩ (by simp) ?_
      simp
/- laws.FnExactDoesFit -/
def R3 : Rel := fun _ vs _ rs _ => ∃ x v xs, vs = [pC x, v] ∧ Sl 3 I v xs ∧ rs = [.bool true]
theorem v3 : SpecR Try.prog 3 sg3 R3 := by
  refine fnZ 41 (by kernel_rfl) (fn := Try.f3) (by kernel_rfl) (by kernel_rfl) (k3 R15 R16 R14 R17 R18) (by kernel_rfl) ⟨v15, v16, v14, v17, v18, trivial⟩ ?_
  rintro lim vs H rs H' ⟨⟨k, a, b, c⟩, v, xs, rfl, hv, rfl⟩ - - -
  simp [c3, l3, List.replicate, pC, hv.len]
  refine fun hle => ?_
  refine goCall_pure rfl ⟨⟨k, a, b, c⟩, rfl, rfl⟩ (by simp) ?_
  simp
  refine goCall_pure rfl ⟨v, xs, rfl, hv, by omega, rfl⟩ (by simp) ?_
  simp
  have hsl : Sl 3 I (.sl 3 (xs.map I)) xs := ⟨.inl rfl, by omega⟩
  generalize hp : (hid xs && clueOk xs.length ⟨k, a, b, c⟩ && fitsC ⟨k, a, b, c⟩ xs) = p
  generalize hq : (hid xs && clueOk xs.length ⟨k, a, b, c⟩) = q
  refine goCall_pure rfl ⟨⟨k, a, b, c⟩, _, xs, rfl, hsl, by omega, by rw [hp, hq]⟩ (by simp) ?_
  simp
  refine goCall_pure rfl ⟨v, xs, rfl, hv, by omega, rfl⟩ (by simp) ?_
  simp
  refine goCall_pure rfl ⟨⟨k, a, b, c⟩, rfl, rfl⟩ (by simp) ?_
  simp
  refine goCall_pure rfl ⟨⟨k, a, b, c⟩, _, xs, rfl, hsl, by omega, by rw [hp, hq]⟩ (by simp) ?_
  simp
  refine goCall_pure rfl ⟨v, xs, rfl, hv, by omega, rfl⟩ (by simp) ?_
  simp
  refine goCall_pure rfl ⟨_, _, xs, xs, rfl, hsl, hsl, rfl⟩ (by simp) ?_
  simp
end Go.Proofs.Ytfljbfgceilppaa
