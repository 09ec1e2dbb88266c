/- Puzzles, and all their solutions: each function does what is told of it. Conditions: none. -/
import Derived.Test.YtfljbfgceilppaaV
import Derived.Test.YtfljbfgceilppaaK2
import Derived.Test.YtfljbfgceilppaaDenC
import Derived.Test.YtfljbfgceilppaaProg
import Derived.KernelRfl
set_option linter.unusedVariables false
set_option linter.unusedSimpArgs false
set_option linter.unnecessarySimpa false
set_option autoImplicit false
set_option linter.unusedSimpArgs false
set_option linter.unusedVariables false
namespace Go.Den
/-! ### Puzzles whole, and their solutions -/
/-- A struct of a number and a row. -/
def pP (n : Int) (v : PV) : PV := .agg [I n, v]
@[simp] theorem pP_cells (n : Int) (v : PV) : (pP n v).cells = [I n, v] := rfl
@[simp] theorem pP_undef (n : Int) (v : PV) : (pP n v).isUndef = false := rfl
@[simp] theorem pP_nOk (n : Int) (v : PV) : nOk (some 2) (pP n v) = true := rfl
theorem pP_eq (n : Int) (v : PV) : .agg [I n, v] = pP n v := rfl
def okP (n : Int) (cs : List Cl) : Bool := inR 2 4 n && decide (cs.length ≤ 6) && cs.all (clueOk n)
def fitsAll (cs : List Cl) (xs : List Int) : Bool := cs.all fun c => fitsC c xs
def solsL (cs : List Cl) : Nat → List Int → List (List Int)
  | 0, xs => if fitsAll cs xs then [xs] else []
  | n + 1, xs => (List.range 6).flatMap fun (s : Nat) => solsL cs n (xs ++ [(s : Int) + 1])
theorem solsL_succ (cs : List Cl) (n : Nat) (xs : List Int) : solsL cs (n + 1) xs = (List.range 6).flatMap fun (s : Nat) => solsL cs n (xs ++ [(s : Int) + 1]) := rfl
theorem solsL_len {cs : List Cl} : ∀ {n : Nat} {xs : List Int}, (solsL cs n xs).length ≤ 6 ^ n
  | 0, xs => by unfold solsL; split <;> simp
  | n + 1, xs => by
    rw [solsL_succ]
    have h := fun s : Nat => solsL_len (cs := cs) (n := n) (xs := xs ++ [(s : Int) + 1])
    simp only [List.range, List.range.loop, List.flatMap_cons, List.flatMap_nil, List.length_append, List.length_nil, Nat.pow_succ]
    have h0 := h 0; have h1 := h 1; have h2 := h 2; have h3 := h 3; have h4 := h 4; have h5 := h 5
    omega
theorem solsL_mem {cs : List Cl} : ∀ {n : Nat} {xs ys : List Int}, ys ∈ solsL cs n xs → ys.length = xs.length + n ∧ (∀ y ∈ ys, y ∈ xs ∨ 1 ≤ y ∧ y ≤ 6) ∧ fitsAll cs ys = true
  | 0, xs, ys, h => by
    unfold solsL at h
    split at h
    · simp at h; subst h; rename_i hf; exact ⟨by simp, fun y hy => .inl hy, hf⟩
    · cases h
  | n + 1, xs, ys, h => by
    rw [solsL_succ, List.mem_flatMap] at h
    obtain ⟨s, hs, h⟩ := h
    have hs := List.mem_range.1 hs
    obtain ⟨h1, h2, h3⟩ := solsL_mem h
    refine ⟨by rw [h1]; simp; omega, fun y hy => ?_, h3⟩
    rcases h2 y hy with h | h
    · rw [List.mem_append] at h
      rcases h with h | h
      · exact .inl h
      · simp at h; right; omega
    · exact .inr h
/-- A row of numbers as a value, of its own. -/
def pR (e : Nat) (xs : List Int) : PV := .sl e (xs.map I)
@[simp] theorem pR_undef {e : Nat} {xs : List Int} : (pR e xs).isUndef = false := rfl
@[simp] theorem pR_cells {e : Nat} {xs : List Int} : (pR e xs).cells = [pR e xs] := rfl
@[simp] theorem pR_def1 {e : Nat} {xs : List Int} : (pR e xs).def1 = true := rfl
/-- A list of rows behind a list of rows. -/
def addV (e2 e : Nat) (old : PV) (acc l : List (List Int)) : PV := if l = [] then old else .sl e2 ((acc ++ l).map (pR e))
theorem addV_nil {e2 e : Nat} {old : PV} {acc : List (List Int)} : addV e2 e old acc [] = old := rfl
theorem addV_sl {e2 e : Nat} {old : PV} {acc l : List (List Int)} (h : Sl e2 (pR e) old acc) (hl : acc.length + l.length ≤ 9223372036854775807) : Sl e2 (pR e) (addV e2 e old acc l) (acc ++ l) := by
  unfold addV
  split
  · rename_i h1; subst h1; simpa using h
  · exact ⟨.inl rfl, by simp; omega⟩
theorem addV_add {e2 e : Nat} {old : PV} {acc l m : List (List Int)} : addV e2 e (addV e2 e old acc l) (acc ++ l) m = addV e2 e old acc (l ++ m) := by
  unfold addV
  cases l <;> cases m <;> simp
theorem rowOf_pR {e2 e : Nat} {old : PV} {acc : List (List Int)} (h : Sl e2 (pR e) old acc) : rowOf e2 old = some (acc.map (pR e)) := h.row
/-- One row behind a list of rows. -/
theorem appR_one {e2 e : Nat} {old : PV} {acc : List (List Int)} {xs : List Int} (h : Sl e2 (pR e) old acc) (hl : acc.length ≤ 1048576) : appV e2 24 false old (.sl e2 [pR e xs]) = some (addV e2 e old acc [xs]) := by
  unfold appV
  rw [h.row, rowOf_sl]
  simp only
  rw [if_pos]
  · cases old <;> simp [appRes, addV]
  · refine ⟨by simp; omega, by simp; omega, by simp [pR], by simp⟩
def p6 (n : Int) : Nat := n.toNat
/-- The solutions of a puzzle. -/
def sols (n : Int) (cs : List Cl) : List (List Int) := solsL cs n.toNat []
theorem sols_len {n : Int} {cs : List Cl} (h : n ≤ 4) : (sols n cs).length ≤ 1296 := by
  have h1 : (sols n cs).length ≤ 6 ^ n.toNat := solsL_len
  have h2 : 6 ^ n.toNat ≤ 6 ^ 4 := Nat.pow_le_pow_right (by omega) (by omega)
  omega
end Go.Den
namespace Go.Den
theorem set_same {H : Boxes} {r : Nat} {b : CK × List PV} (h : H[r]? = some b) : H.set r b = H := by
  apply List.ext_getElem?
  intro i
  by_cases hi : r = i
  · subst hi; rw [h, List.getElem?_set_self (H_lt h)]
  · rw [List.getElem?_set_ne hi]
theorem unbox_own {H : Boxes} {r : Nat} {ck : CK} {old : PV} (h : H[r]? = some (ck, [old])) : unbox H (.ref r 0) 0 = H.set r (ck, [.undef]) := by
  simp [unbox, h, undefs]
theorem addV_one {e2 e : Nat} {old : PV} {acc : List (List Int)} {xs : List Int} : addV e2 e old acc [xs] = .sl e2 ((acc ++ [xs]).map (pR e)) := by simp [addV]
def boxC (x : Cl) : CK × List PV := (CK.own, [I x.k, I x.a, I x.b, I x.c])
/-- The clues looked at before one fails. -/
def seenL (cs : List Cl) (xs : List Int) : List (CK × List PV) := (cs.take (cs.findIdx (fun c => !fitsC c xs) + 1)).map boxC
theorem seenL_at {cs : List Cl} {xs : List Int} {i : Nat} (h : Before (fun c => !fitsC c xs) cs i) (hi : i < cs.length) (hp : fitsC cs[i] xs = false) : seenL cs xs = (cs.map boxC).take i ++ [boxC cs[i]] := by
  have e : cs.findIdx (fun c => !fitsC c xs) = i := (List.findIdx_eq hi).2 ⟨by simp [hp], fun j hj => by simpa using h j (by omega) hj⟩
  unfold seenL
  rw [e, List.take_succ_eq_append_getElem hi, List.map_append, List.map_take]; rfl
theorem seenL_all {cs : List Cl} {xs : List Int} (h : fitsAll cs xs = true) : seenL cs xs = cs.map boxC := by
  unfold seenL
  have e : cs.findIdx (fun c => !fitsC c xs) = cs.length := by
    rw [List.findIdx_eq_length]
    intro c hc
    have := List.all_eq_true.1 h c hc
    simp [this]
  rw [e, List.take_of_length_le (by omega)]
/-- Solutions that begin so, with the next number at most s. -/
def solsP (cs : List Cl) (n : Nat) (xs : List Int) (s : Nat) : List (List Int) := (List.range s).flatMap fun (k : Nat) => solsL cs n (xs ++ [(k : Int) + 1])
theorem solsP_succ {cs : List Cl} {n : Nat} {xs : List Int} {s : Nat} : solsP cs n xs (s + 1) = solsP cs n xs s ++ solsL cs n (xs ++ [(s : Int) + 1]) := by
  simp [solsP, List.range_succ]
theorem solsP_len {cs : List Cl} {n : Nat} {xs : List Int} : ∀ {s : Nat}, (solsP cs n xs s).length ≤ s * 6 ^ n
  | 0 => by simp [solsP]
  | s + 1 => by
    rw [solsP_succ, List.length_append, Nat.add_mul]
    have h1 := solsP_len (cs := cs) (n := n) (xs := xs) (s := s)
    have h2 := solsL_len (cs := cs) (n := n) (xs := xs ++ [(s : Int) + 1])
    omega
theorem hid_mk {xs : List Int} (h1 : 2 ≤ xs.length) (h2 : xs.length ≤ 4) (h3 : ∀ x ∈ xs, 1 ≤ x ∧ x ≤ 6) : hid xs = true := by
  simp only [hid, inR, Bool.and_eq_true, decide_eq_true_eq, List.all_eq_true]
  exact ⟨by omega, fun x hx => h3 x hx⟩
theorem Sl.pR {e : Nat} {v : PV} {xs : List Int} (h : Sl e I v xs) (hx : xs ≠ []) : v = Den.pR e xs := by
  rcases h.1 with h | ⟨_, h⟩
  · exact h
  · exact absurd h hx
theorem okP_spec {n : Int} {cs : List Cl} (h : okP n cs = true) : 2 ≤ n ∧ n ≤ 4 ∧ cs.length ≤ 6 ∧ ∀ c ∈ cs, clueOk n c = true := by
  simp only [okP, inR, Bool.and_eq_true, decide_eq_true_eq, List.all_eq_true] at h
  exact ⟨h.1.1.1, h.1.1.2, h.1.2, h.2⟩
end Go.Den
set_option autoImplicit false
set_option linter.unusedVariables false
set_option linter.unusedSimpArgs false
set_option linter.unnecessarySimpa false
namespace Go.Proofs.Ytfljbfgceilppaa
open Go.Den
/- laws.szClueS -/
def R64 : Rel := fun _ vs _ rs _ => ∃ v xs left, vs = [v, I left] ∧ Sl 23 pC v xs ∧ 0 ≤ left ∧ left ≤ 1048576 ∧ rs = [I (if left - (xs.length : Int) < 0 then -1 else left - (xs.length : Int))]
theorem v64 : SpecR Try.prog 64 sg64 R64 := by
  refine fnZ 10 (by kernel_rfl) (fn := Try.f64) (by kernel_rfl) (by kernel_rfl) k64 (by kernel_rfl) trivial ?_
  rintro lim vs H rs H' ⟨v, xs, left, rfl, hv, h0, h1, rfl⟩ - - -
  have hlen := hv.2
  simp [c64, List.replicate, hv.len, wrap_id (show -9223372036854775808 ≤ left - (xs.length : Int) by omega) (show left - (xs.length : Int) ≤ 9223372036854775807 by omega)]
  exact ⟨fun h h' => by omega, fun h h' => by omega⟩
/- laws.szPuzzle -/
def R25 : Rel := fun _ vs _ rs _ => ∃ n v xs left, vs = [pP n v, I left] ∧ Sl 23 pC v xs ∧ 0 ≤ left ∧ left ≤ 1048576 ∧ rs = [I (if left - (xs.length : Int) < 0 then -1 else left - (xs.length : Int))]
theorem v25 : SpecR Try.prog 25 sg25 R25 := by
  refine fnZ 10 (by kernel_rfl) (fn := Try.f25) (by kernel_rfl) (by kernel_rfl) (k25 R64) (by kernel_rfl) ⟨v64, trivial⟩ ?_
  rintro lim vs H rs H' ⟨n, v, xs, left, rfl, hv, h0, h1, rfl⟩ - - -
  simp [c25, l25, List.replicate, hv.undef, hv.cells]
  refine goCall_pure rfl ⟨v, xs, left, rfl, hv, h0, h1, rfl⟩ (by simp) ?_
  by_cases h : left - (xs.length : Int) < 0
  · simp [h]
  · simp [h]
/- laws.toClueS -/
def R67 : Rel := fun _ vs _ rs _ => ∃ v xs, vs = [v] ∧ Sl 23 pC v xs ∧ xs.length ≤ 1048576 ∧ rs = [.sl 27 (xs.map pC)]
theorem v67 : SpecR Try.prog 67 sg67 R67 := by
  refine fnZ 22 (by kernel_rfl) (fn := Try.f67) (by kernel_rfl) (by kernel_rfl) (k67 R15) (by kernel_rfl) ⟨v15, trivial⟩ ?_
  rintro lim vs H rs H' ⟨v, xs, rfl, hv, hb, rfl⟩ - - -
  have hlen := hv.2
  simp [c67, List.replicate, hv.len]
  rw [if_pos (by omega)]
  simp
  refine goL_intro (fun n σ H'' => ∃ i : Nat, i ≤ xs.length ∧ n = xs.length - i ∧ σ = slots 23 [(0, v), (3, .sl 27 (fillL pC (.agg [I 0, I 0, I 0, I 0]) xs i)), (4, I i)]) xs.length ⟨0, by omega, by omega, by simp [slots, List.replicate, fill_zero]⟩ ?_
  rintro n σ H'' ⟨i, hi', rfl, rfl⟩
  simp [slots, List.replicate, hv.len]
  refine ⟨fun hlt => ?_, fun hge => ?_⟩
  · have hset := fill_set (f := pC) (z := (.agg [I 0, I 0, I 0, I 0])) hlt
    simp [hv.iadd hlt, hv.elem hlt, l67, fill_len hi', fill_get hlt, fill_getE hlt, hlt]
    refine goCall_pure rfl ⟨xs[i], rfl, rfl⟩ (by simp) ?_
    simp [fill_len hi', fill_get hlt, fill_getE hlt, hlt]
    refine ⟨xs.length - (i + 1), by omega, i + 1, by omega, rfl, ?_, ?_⟩
    · exact hset
    · rw [wrap_id (by omega) (by omega)]; simp
  · simp [fill_all hge]
/- laws.toPuzzle -/
def R27 : Rel := fun _ vs _ rs _ => ∃ n v xs, vs = [pP n v] ∧ Sl 23 pC v xs ∧ xs.length ≤ 1048576 ∧ rs = [pP n (.sl 27 (xs.map pC))]
theorem v27 : SpecR Try.prog 27 sg27 R27 := by
  refine fnZ 11 (by kernel_rfl) (fn := Try.f27) (by kernel_rfl) (by kernel_rfl) (k27 R67) (by kernel_rfl) ⟨v67, trivial⟩ ?_
  rintro lim vs H rs H' ⟨n, v, xs, rfl, hv, hb, rfl⟩ - - -
  simp [c27, l27, List.replicate, hv.undef, hv.cells]
  refine goCall_pure rfl ⟨v, xs, rfl, hv, hb, rfl⟩ (by simp) ?_
  simp [pP]
/- laws.eqClue -/
def R85 : Rel := fun _ vs _ rs _ => ∃ x y, vs = [pC x, pC y] ∧ rs = [.bool (decide (x = y))]
theorem v85 : SpecR Try.prog 85 sg85 R85 := by
  refine fnZ 23 (by kernel_rfl) (fn := Try.f85) (by kernel_rfl) (by kernel_rfl) k85 (by kernel_rfl) trivial ?_
  rintro lim vs H rs H' ⟨⟨a1, a2, a3, a4⟩, ⟨b1, b2, b3, b4⟩, rfl, rfl⟩ - - -
  simp [c85, List.replicate, pC]
  grind
/- laws.eqClueS -/
def R61 : Rel := fun _ vs _ rs _ => ∃ v w xs ys, vs = [v, w] ∧ Sl 27 pC v xs ∧ Sl 27 pC w ys ∧ rs = [.bool (decide (xs = ys))]
theorem v61 : SpecR Try.prog 61 sg61 R61 := by
  refine fnZ 25 (by kernel_rfl) (fn := Try.f61) (by kernel_rfl) (by kernel_rfl) (k61 R85) (by kernel_rfl) ⟨v85, trivial⟩ ?_
  rintro lim vs H rs H' ⟨v, w, ns, ms, rfl, hv, hw, rfl⟩ - - -
  have hlen := hv.2
  simp [c61, List.replicate, hv.len, hw.len]
  refine ⟨fun h e => h (by rw [e]), fun hle => ?_⟩
  have hle' : ns.length = ms.length := by omega
  refine goL_intro (fun n σ H'' => ∃ i : Nat, i ≤ ns.length ∧ n = ns.length - i ∧ ns.take i = ms.take i ∧ σ = slots 27 [(0, v), (1, w), (5, I i)]) ns.length ⟨0, by omega, by omega, rfl, by simp [slots, List.replicate]⟩ ?_
  rintro n σ H'' ⟨i, hi', rfl, hT, rfl⟩
  simp [slots, List.replicate, hv.len]
  refine ⟨fun hlt => ?_, fun hge => ?_⟩
  · have hlt2 : i < ms.length := by omega
    simp [hv.iadd hlt, hv.elem hlt, hw.iadd hlt2, hw.elem hlt2, l61]
    refine goCall_pure rfl ⟨ns[i], ms[i], rfl, rfl⟩ (by simp) ?_
    simp
    refine ⟨fun hne e => ?_, fun heq => ?_⟩
    · subst e; exact hne rfl
    · refine ⟨ns.length - (i + 1), by omega, i + 1, by omega, rfl, ?_, ?_⟩
      · rw [List.take_succ_eq_append_getElem hlt, List.take_succ_eq_append_getElem hlt2, hT, heq]
      · rw [wrap_id (by omega) (by omega)]; simp
  · rw [List.take_of_length_le hge, List.take_of_length_le (by omega)] at hT
    simpa using hT
/- laws.eqPuzzle -/
def R21 : Rel := fun _ vs _ rs _ => ∃ n v xs m w ys, vs = [pP n v, pP m w] ∧ Sl 27 pC v xs ∧ Sl 27 pC w ys ∧ rs = [.bool (decide (n = m) && decide (xs = ys))]
theorem v21 : SpecR Try.prog 21 sg21 R21 := by
  refine fnZ 14 (by kernel_rfl) (fn := Try.f21) (by kernel_rfl) (by kernel_rfl) (k21 R61) (by kernel_rfl) ⟨v61, trivial⟩ ?_
  rintro lim vs H rs H' ⟨n, v, xs, m, w, ys, rfl, hv, hw, rfl⟩ - - -
  by_cases h : n = m
  · simp [c21, l21, List.replicate, hv.undef, hv.cells, hw.undef, hw.cells, h]
    refine goCall_pure rfl ⟨v, w, xs, ys, rfl, hv, hw, rfl⟩ (by simp) ?_
    by_cases h2 : xs = ys <;> simp [h2]
  · simp [c21, l21, List.replicate, hv.undef, hv.cells, hw.undef, hw.cells, h]
end Go.Proofs.Ytfljbfgceilppaa
set_option autoImplicit false
set_option linter.unusedVariables false
set_option linter.unusedSimpArgs false
set_option linter.unnecessarySimpa false
namespace Go.Proofs.Ytfljbfgceilppaa
open Go.Den
/- spec.pzGood -/
def R65 : Rel := fun _ vs _ rs _ => ∃ n v xs, vs = [pP n v] ∧ Sl 27 pC v xs ∧ rs = [.bool (okP n xs)]
theorem v65 : SpecR Try.prog 65 sg65 R65 := by
  refine fnZ 27 (by kernel_rfl) (fn := Try.f65) (by kernel_rfl) (by kernel_rfl) (k65 R76 R50) (by kernel_rfl) ⟨v76, v50, trivial⟩ ?_
  rintro lim vs H rs H' ⟨n, v, xs, rfl, hv, rfl⟩ - - -
  have hlen := hv.2
  simp [c65, l65, List.replicate, hv.undef, hv.cells]
  refine goCall_pure rfl ⟨n, rfl, rfl⟩ (by simp) ?_
  cases h1 : inR 2 4 n
  · simp [okP, h1]
  · have hn : 2 ≤ n ∧ n ≤ 4 := by simpa [inR] using h1
    by_cases h2 : xs.length ≤ 6
    · have h2' : ¬ (6 : Int) < xs.length := by omega
      simp [hv.undef, hv.cells, hv.len, h2']
      refine goL_intro (fun m σ H'' => ∃ i : Nat, i ≤ xs.length ∧ m = xs.length - i ∧ Before (fun c => !clueOk n c) xs i ∧ H''[H.length]? = some (.sh, [I n, v]) ∧ σ = slots 28 [(1, .ref H.length 0), (16, v), (17, I xs.length), (18, I i)]) xs.length ⟨0, by omega, by omega, Before.zero, by simp, by simp [slots, List.replicate]⟩ ?_
      rintro m σ H'' ⟨i, hi', rfl, hall, hH, rfl⟩
      have hH2 : ∀ x, (H'' ++ [x])[H.length]? = some (.sh, [I n, v]) := fun x => by rw [List.getElem?_append_left (H_lt hH)]; exact hH
      simp [slots, List.replicate]
      refine ⟨fun hlt => ?_, fun hge => ?_⟩
      · simp [hv.iadd hlt, hv.elem hlt, hH2]
        refine goCall_pure rfl ⟨n, xs[i], rfl, by omega, by omega, rfl⟩ (by simp) ?_
        simp
        refine ⟨fun h => ?_, fun h => ⟨xs.length - (i + 1), by omega, i + 1, by omega, rfl, hall.succ hlt (by simp [h]), hH2 _, ?_⟩⟩
        · have : xs.all (clueOk n) = false := List.all_eq_false.2 ⟨_, List.getElem_mem hlt, by simp [h]⟩
          simp [okP, this]
        · rw [wrap_id (by omega) (by omega)]; simp
      · have := hall.all hge
        simp only [Bool.not_not] at this
        simp [okP, h1, h2, this]
    · have h2' : (6 : Int) < xs.length := by omega
      simp [hv.undef, hv.cells, hv.len, h2', okP, h2]
/- impl.IsPuzzle$1 -/
def R88 : Rel := fun _ vs H rs _ => ∃ x r n v ck, vs = [pC x, .ref r 0] ∧ H[r]? = some (ck, [I n, v]) ∧ ck ≠ .fn ∧ 2 ≤ n ∧ n ≤ 4 ∧ rs = [.bool (!clueOk n x)]
theorem v88 : SpecR Try.prog 88 sg88 R88 := by
  refine fnZ 7 (by kernel_rfl) (fn := Try.f88) (by kernel_rfl) (by kernel_rfl) (k88 R53) (by kernel_rfl) ⟨v53, trivial⟩ ?_
  rintro lim vs H rs H' ⟨⟨k, a, b, c⟩, r, n, v, ck, rfl, hH, hck, hn1, hn2, rfl⟩ - - -
  have hH2 : ∀ x, (H ++ [x])[r]? = some (ck, [I n, v]) := fun x => by rw [List.getElem?_append_left (H_lt hH)]; exact hH
  simp [c88, l88, List.replicate, pC, hH2]
  refine goCall_pure rfl ⟨n, ⟨k, a, b, c⟩, rfl, by omega, by omega, rfl⟩ (by simp) ?_
  have : inR 2 4 n = true := by simp [inR]; omega
  simp [this]
/- slices.IndexFunc[[]impl.Clue,impl.Clue]%isClue -/
def R101a : Rel := fun _ vs H rs _ => ∃ v xs r n w ck, vs = [v, .fn 88 [.ref r 0]] ∧ Sl 27 pC v xs ∧ H[r]? = some (ck, [I n, w]) ∧ ck ≠ .fn ∧ 2 ≤ n ∧ n ≤ 4 ∧ rs = [I (idx (fun x => !clueOk n x) xs)]
theorem v101a : SpecR Try.prog 101 sg101 R101a := by
  refine fnZ 17 (by kernel_rfl) (fn := Try.f101) (by kernel_rfl) (by kernel_rfl) (k101a R88) (by kernel_rfl) ⟨v88, trivial⟩ ?_
  rintro lim vs H rs H' ⟨v, xs, r, n, w, ck, rfl, hv, hH, hck, hn1, hn2, rfl⟩ - - -
  have hlen := hv.2
  simp [c101a, List.replicate, hv.len]
  refine goL_intro (fun m σ H'' => ∃ i : Nat, i ≤ xs.length ∧ m = xs.length - i ∧ Before (fun x => !clueOk n x) xs i ∧ σ = slots 19 [(0, v), (1, .fn 88 [.ref r 0]), (7, I xs.length), (8, I i)] ∧ H'' = H) xs.length ⟨0, by omega, by omega, Before.zero, by simp [slots, List.replicate], rfl⟩ ?_
  rintro m σ H'' ⟨i, hi', rfl, hall, rfl, rfl⟩
  simp [slots, List.replicate]
  refine ⟨fun hlt => ?_, fun hge => ?_⟩
  · simp [hv.iadd hlt, hv.elem hlt, l101a]
    refine goCall_pure rfl ⟨xs[i], r, n, w, ck, rfl, hH, hck, hn1, hn2, rfl⟩ ?_ ?_
    · exact ⟨by simp, argV_sh hH hck, trivial⟩
    · simp
      refine ⟨fun h => ?_, fun h => ⟨xs.length - (i + 1), by omega, i + 1, by omega, rfl, hall.succ hlt (by simp [h]), ?_⟩⟩
      · rw [hall.idx hlt (by simp [h])]
      · rw [wrap_id (by omega) (by omega)]; simp
  · simp [hall.none hge]
/- slices.ContainsFunc[[]impl.Clue,impl.Clue]%isClue -/
def R87a : Rel := fun _ vs H rs _ => ∃ v xs r n w ck, vs = [v, .fn 88 [.ref r 0]] ∧ Sl 27 pC v xs ∧ H[r]? = some (ck, [I n, w]) ∧ ck ≠ .fn ∧ 2 ≤ n ∧ n ≤ 4 ∧ rs = [.bool (xs.any fun x => !clueOk n x)]
theorem v87a : SpecR Try.prog 87 sg87 R87a := by
  refine fnZ 7 (by kernel_rfl) (fn := Try.f87) (by kernel_rfl) (by kernel_rfl) (k87a R101a) (by kernel_rfl) ⟨v101a, trivial⟩ ?_
  rintro lim vs H rs H' ⟨v, xs, r, n, w, ck, rfl, hv, hH, hck, hn1, hn2, rfl⟩ - - -
  simp [c87a, l87a, List.replicate]
  refine goCall_pure rfl ⟨v, xs, r, n, w, ck, rfl, hv, hH, hck, hn1, hn2, rfl⟩ (by simp) ?_
  simp [idx_ge]
/- impl.IsPuzzle -/
def R69 : Rel := fun _ vs _ rs _ => ∃ n v xs, vs = [pP n v] ∧ Sl 27 pC v xs ∧ rs = [.bool (okP n xs)]
theorem v69 : SpecR Try.prog 69 sg69 R69 := by
  refine fnZ 18 (by kernel_rfl) (fn := Try.f69) (by kernel_rfl) (by kernel_rfl) (k69 R58 R87a) (by kernel_rfl) ⟨v58, v87a, trivial⟩ ?_
  rintro lim vs H rs H' ⟨n, v, xs, rfl, hv, rfl⟩ - - -
  simp [c69, l69, List.replicate, hv.undef, hv.cells]
  refine goCall_pure rfl ⟨_, _, _, rfl, rfl⟩ (by simp) ?_
  cases h1 : inR 2 4 n
  · simp [okP, h1]
  · have hn : 2 ≤ n ∧ n ≤ 4 := by simpa [inR] using h1
    by_cases h2 : xs.length ≤ 6
    · have h2' : (xs.length : Int) ≤ 6 := by omega
      simp [hv.undef, hv.cells, hv.len, h2']
      refine goCall_pure rfl ⟨v, xs, H.length, n, v, .sh, rfl, hv, by simp, by simp, hn.1, hn.2, rfl⟩ (by simp) ?_
      simp [okP, h1, h2, List.not_any_eq_all_not]
    · have h2' : ¬ (xs.length : Int) ≤ 6 := by omega
      simp [hv.undef, hv.cells, hv.len, h2', okP, h2]
end Go.Proofs.Ytfljbfgceilppaa
set_option autoImplicit false
set_option linter.unusedVariables false
set_option linter.unusedSimpArgs false
set_option linter.unnecessarySimpa false
namespace Go.Proofs.Ytfljbfgceilppaa
open Go.Den
/- spec.pzLook -/
def Rr86 (n : Nat) : Rel := fun lim vs H rs H' => ∃ m : Nat, ∃ vc cs vb xs ro old acc, vs = [I m, vc, vb, .ref ro 0] ∧ H[ro]? = some (.own, [old]) ∧ lim ≤ ro ∧ Sl 24 (pR 3) old acc ∧ Sl 27 pC vc cs ∧ Sl 3 I vb xs ∧
  m < n ∧ 2 ≤ m + xs.length ∧ m + xs.length ≤ 4 ∧ (∀ x ∈ xs, 1 ≤ x ∧ x ≤ 6) ∧ (∀ c ∈ cs, clueOk ((m + xs.length : Nat) : Int) c = true) ∧ acc.length + 6 ^ m ≤ 1048576 ∧
  rs = [] ∧ H' = H.set ro (.own, [addV 24 3 old acc (solsL cs m xs)]) ++ (if m = 0 then seenL cs xs else [])
def R86 : Rel := fun lim vs H rs H' => ∃ n, Rr86 n lim vs H rs H'
set_option maxHeartbeats 2000000 in
theorem vr86 (n : Nat) : SpecR Try.prog 86 sg86 (Rr86 n) := by
  induction n with
  | zero => exact specNone (fn := Try.f86) (by kernel_rfl) (by kernel_rfl) (by kernel_rfl) (by rintro lim vs H rs H' ⟨m, vc, cs, vb, xs, ro, old, acc, _, _, _, _, _, _, h, _⟩; omega)
  | succ n ih =>
    refine fnZ 42 (by kernel_rfl) (fn := Try.f86) (by kernel_rfl) (by kernel_rfl) (k86 R71 (Rr86 n) R51) (by kernel_rfl) ⟨v71, ih, v51, trivial⟩ ?_
    rintro lim vs H rs H' ⟨m, vc, cs, vb, xs, ro, old, acc, rfl, hro, hlo, hold, hvc, hvb, hmn, hk2, hk4, hxs, hcs, hacc, rfl, rfl⟩ - hlim -
    have hrl : ro < H.length := H_lt hro
    have hclen := hvc.2
    cases m with
    | zero =>
      have hid1 : hid xs = true := hid_mk (by omega) (by omega) hxs
      have hne : xs ≠ [] := by rintro rfl; simp at hk2
      obtain rfl := hvb.pR hne
      have hx0 : (0 + xs.length : Nat) = xs.length := by omega
      rw [hx0] at hcs
      simp [c86, List.replicate, hvc.len]
      refine goL_intro (fun m σ H'' => ∃ i : Nat, i ≤ cs.length ∧ m = cs.length - i ∧ Before (fun c => !fitsC c xs) cs i ∧ H'' = H ++ (cs.map boxC).take i ∧ σ = slots 46 [(2, pR 3 xs), (3, .ref ro 0), (27, vc), (28, I cs.length), (29, I i)]) cs.length ⟨0, by omega, by omega, Before.zero, by simp, by simp [slots, List.replicate]⟩ ?_
      rintro m σ H'' ⟨i, hi', rfl, hall, rfl, rfl⟩
      simp [slots, List.replicate]
      refine ⟨fun hlt => ?_, fun hge => ?_⟩
      · simp [hvc.iadd hlt, hvc.elem hlt, l86]
        refine goCall_pure rfl ⟨cs[i], _, xs, rfl, hvb, hid1, hcs _ (List.getElem_mem hlt), rfl⟩ (by simp) ?_
        cases hf : fitsC cs[i] xs
        · have hn : fitsAll cs xs = false := List.all_eq_false.2 ⟨_, List.getElem_mem hlt, by simp [hf]⟩
          rw [seenL_at hall hlt hf]
          simp [solsL, hn, addV_nil, set_same hro, boxC]
        · simp
          refine ⟨cs.length - (i + 1), by omega, i + 1, by omega, rfl, hall.succ hlt (by simp [hf]), ?_, ?_⟩
          · rw [List.take_succ_eq_append_getElem (by simpa using hlt)]; simp [boxC]
          · rw [wrap_id (by omega) (by omega)]; simp
      · have hfa : fitsAll cs xs = true := by
          have := hall.all hge
          simpa [fitsAll] using this
        rw [seenL_all hfa, List.take_of_length_le (by simpa using hge)]
        have happ := appR_one (xs := xs) hold (by simp at hacc; omega)
        have hro2 : (H ++ cs.map boxC)[ro]? = some (.own, [old]) := by rw [List.getElem?_append_left hrl]; exact hro
        have hub := unbox_own hro2
        have hg : ((H ++ cs.map boxC).set ro (CK.own, [PV.undef]))[ro]? = some (.own, [.undef]) := List.getElem?_set_self (by rw [List.length_append]; omega)
        rw [addV_one] at happ
        simp [hro2, hold.undef, hold.cells, happ, solsL, hfa, hub, hg]
        simp [List.set_append, hrl, addV_one]
    | succ m =>
      have hm : ¬ (m + 1 = 0) := by omega
      rw [if_neg hm, solsL_succ]
      have hwm : IntKind.i64.wrap (m : Int) = m := wrap_id (by omega) (by omega)
      simp [c86, List.replicate]
      refine goL_intro (fun k σ H'' => ∃ s : Nat, s ≤ 6 ∧ k = 6 - s ∧ H'' = H.set ro (.own, [addV 24 3 old acc (solsP cs m xs s)]) ∧ σ = slots 46 [(0, I (m + 1)), (1, vc), (2, vb), (3, .ref ro 0), (8, I (s + 1))]) 6 ⟨0, by omega, by omega, by simp [solsP, addV_nil, set_same hro], by simp [slots, List.replicate]⟩ ?_
      rintro k σ H'' ⟨s, hs, rfl, rfl, rfl⟩
      simp [slots, List.replicate]
      refine ⟨fun hlt => ?_, fun hge => ?_⟩
      · simp [l86]
        refine goCall_pure rfl ⟨vb, xs, rfl, hvb, by omega, rfl⟩ (by simp) ?_
        have hap : appV 3 8 true (.sl 3 (xs.map I)) (.sl 3 [I (s + 1)]) = some (.sl 3 ((xs ++ [(s : Int) + 1]).map I)) := Sl.app0 (⟨.inl rfl, by simp⟩ : Sl 3 I (.sl 3 [I (s + 1)]) [(s : Int) + 1]) (by simp; omega)
        simp [hap, hwm]
        have hsl := solsP_len (cs := cs) (n := m) (xs := xs) (s := s)
        have hpw : 6 ^ (m + 1) = 6 ^ m * 6 := Nat.pow_succ ..
        have hs6 : s * 6 ^ m + 6 ^ m ≤ 6 ^ m * 6 := by
          have : (s + 1) * 6 ^ m ≤ 6 * 6 ^ m := Nat.mul_le_mul_right _ (by omega)
          rw [Nat.add_mul] at this; omega
        have hro2 : (H.set ro (.own, [addV 24 3 old acc (solsP cs m xs s)]))[ro]? = some (.own, [addV 24 3 old acc (solsP cs m xs s)]) := List.getElem?_set_self hrl
        have hlx : (xs ++ [(s : Int) + 1]).length = xs.length + 1 := by simp
        refine goCall_imp rfl ⟨m, vc, cs, .sl 3 ((xs ++ [(s : Int) + 1]).map I), xs ++ [(s : Int) + 1], ro, addV 24 3 old acc (solsP cs m xs s), acc ++ solsP cs m xs s, by simp, hro2, hlo, addV_sl hold (by omega), hvc, ⟨.inl rfl, by omega⟩, by omega, by omega, by omega, ?_, ?_, ?_, rfl, rfl⟩ ?_ ?_
        · intro x hx
          rw [List.mem_append] at hx
          rcases hx with hx | hx
          · exact hxs x hx
          · simp at hx; omega
        · rw [hlx, show m + (xs.length + 1) = m + 1 + xs.length by omega]; exact hcs
        · rw [List.length_append]; omega
        · refine ⟨by simp, trivial, by simp, ?_, trivial⟩
          simp only [argV, hro2]; exact viewV_own hlo
        · rw [mergeH_tail (by simp), mergeH_set hro2 (keepB_own hlo), List.set_set, addV_add, ← solsP_succ]
          simp
          refine ⟨6 - (s + 1), by omega, s + 1, by omega, rfl, rfl, ?_⟩
          rw [wrap_id (by omega) (by omega)]; simp
      · obtain rfl : s = 6 := by omega
        rfl
theorem v86 : SpecR Try.prog 86 sg86 R86 := specEx vr86
end Go.Proofs.Ytfljbfgceilppaa
set_option autoImplicit false
set_option linter.unusedVariables false
set_option linter.unusedSimpArgs false
set_option linter.unnecessarySimpa false
namespace Go.Proofs.Ytfljbfgceilppaa
open Go.Den
/- spec.pzAll -/
def R66 : Rel := fun _ vs _ rs _ => ∃ n v cs, vs = [I n, v] ∧ Sl 27 pC v cs ∧ 2 ≤ n ∧ n ≤ 4 ∧ (∀ c ∈ cs, clueOk n c = true) ∧ rs = [addV 24 3 .nil [] (sols n cs)]
theorem v66 : SpecR Try.prog 66 sg66 R66 := by
  refine fnZ 8 (by kernel_rfl) (fn := Try.f66) (by kernel_rfl) (by kernel_rfl) (k66 R86) (by kernel_rfl) ⟨v86, trivial⟩ ?_
  rintro lim vs H rs H' ⟨n, v, cs, rfl, hv, hn1, hn2, hcs, rfl⟩ - hlim -
  obtain ⟨m, rfl⟩ : ∃ m : Nat, n = m := ⟨n.toNat, by omega⟩
  have hro : (H ++ [(CK.own, [PV.nil])])[H.length]? = some (.own, [.nil]) := by simp
  have h0 : Sl 24 (pR 3) .nil [] := ⟨.inr ⟨rfl, rfl⟩, by simp⟩
  have hs := sols_len (n := (m : Int)) (cs := cs) hn2
  have hS := addV_sl h0 (l := sols m cs) (by simp; omega)
  have e : sols m cs = solsL cs m [] := by simp [sols]
  simp [c66, l66, List.replicate]
  refine goCall_imp rfl ⟨m + 1, m, v, cs, .nil, [], H.length, .nil, [], rfl, hro, hlim, h0, hv, ⟨.inr ⟨rfl, rfl⟩, by simp⟩, by omega, by simp; omega, by simp; omega, by simp, by simpa using hcs, ?_, rfl, rfl⟩ ?_ ?_
  · have : 6 ^ m ≤ 6 ^ 4 := Nat.pow_le_pow_right (by omega) (by omega)
    simp; omega
  · refine ⟨by simp, trivial, by simp, ?_, trivial⟩
    simp only [argV, hro]; exact viewV_own hlim
  · rw [mergeH_tail (by simp), mergeH_set hro (keepB_own hlim), ← e]
    simp [hS.undef, hS.cells]
end Go.Proofs.Ytfljbfgceilppaa
set_option autoImplicit false
set_option linter.unusedVariables false
set_option linter.unusedSimpArgs false
set_option linter.unnecessarySimpa false
namespace Go.Proofs.Ytfljbfgceilppaa
open Go.Den
/- impl.solutions$1$1 -/
def R90 : Rel := fun _ vs H rs _ => ∃ x r v xs ck, vs = [pC x, .ref r 0] ∧ H[r]? = some (ck, [v]) ∧ ck ≠ .fn ∧ Sl 3 I v xs ∧ hid xs = true ∧ clueOk xs.length x = true ∧ rs = [.bool (!fitsC x xs)]
theorem v90 : SpecR Try.prog 90 sg90 R90 := by
  refine fnZ 6 (by kernel_rfl) (fn := Try.f90) (by kernel_rfl) (by kernel_rfl) (k90 R54) (by kernel_rfl) ⟨v54, trivial⟩ ?_
  rintro lim vs H rs H' ⟨⟨k, a, b, c⟩, r, v, xs, ck, rfl, hH, hck, hv, hh, hc, rfl⟩ - - -
  have hH2 : ∀ x, (H ++ [x])[r]? = some (ck, [v]) := fun x => by rw [List.getElem?_append_left (H_lt hH)]; exact hH
  simp [c90, l90, List.replicate, pC, hH2, hv.undef, hv.cells]
  refine goCall_pure rfl ⟨⟨k, a, b, c⟩, v, xs, rfl, hv, hh, hc, rfl⟩ (by simp) ?_
  simp
/- slices.IndexFunc[[]impl.Clue,impl.Clue]%fits -/
def R101b : Rel := fun _ vs H rs _ => ∃ v cs r w xs ck, vs = [v, .fn 90 [.ref r 0]] ∧ Sl 27 pC v cs ∧ H[r]? = some (ck, [w]) ∧ ck ≠ .fn ∧ Sl 3 I w xs ∧ hid xs = true ∧ (∀ c ∈ cs, clueOk xs.length c = true) ∧ rs = [I (idx (fun x => !fitsC x xs) cs)]
theorem v101b : SpecR Try.prog 101 sg101 R101b := by
  refine fnZ 17 (by kernel_rfl) (fn := Try.f101) (by kernel_rfl) (by kernel_rfl) (k101b R90) (by kernel_rfl) ⟨v90, trivial⟩ ?_
  rintro lim vs H rs H' ⟨v, cs, r, w, xs, ck, rfl, hv, hH, hck, hw, hh, hc, rfl⟩ - - -
  have hlen := hv.2
  simp [c101b, List.replicate, hv.len]
  refine goL_intro (fun m σ H'' => ∃ i : Nat, i ≤ cs.length ∧ m = cs.length - i ∧ Before (fun x => !fitsC x xs) cs i ∧ σ = slots 19 [(0, v), (1, .fn 90 [.ref r 0]), (7, I cs.length), (8, I i)] ∧ H'' = H) cs.length ⟨0, by omega, by omega, Before.zero, by simp [slots, List.replicate], rfl⟩ ?_
  rintro m σ H'' ⟨i, hi', rfl, hall, rfl, rfl⟩
  simp [slots, List.replicate]
  refine ⟨fun hlt => ?_, fun hge => ?_⟩
  · simp [hv.iadd hlt, hv.elem hlt, l101b]
    refine goCall_pure rfl ⟨cs[i], r, w, xs, ck, rfl, hH, hck, hw, hh, hc _ (List.getElem_mem hlt), rfl⟩ ?_ ?_
    · exact ⟨by simp, argV_sh hH hck, trivial⟩
    · simp
      refine ⟨fun h => ?_, fun h => ⟨cs.length - (i + 1), by omega, i + 1, by omega, rfl, hall.succ hlt (by simp [h]), ?_⟩⟩
      · rw [hall.idx hlt (by simp [h])]
      · rw [wrap_id (by omega) (by omega)]; simp
  · simp [hall.none hge]
/- slices.ContainsFunc[[]impl.Clue,impl.Clue]%fits -/
def R87b : Rel := fun _ vs H rs _ => ∃ v cs r w xs ck, vs = [v, .fn 90 [.ref r 0]] ∧ Sl 27 pC v cs ∧ H[r]? = some (ck, [w]) ∧ ck ≠ .fn ∧ Sl 3 I w xs ∧ hid xs = true ∧ (∀ c ∈ cs, clueOk xs.length c = true) ∧ rs = [.bool (!fitsAll cs xs)]
theorem v87b : SpecR Try.prog 87 sg87 R87b := by
  refine fnZ 7 (by kernel_rfl) (fn := Try.f87) (by kernel_rfl) (by kernel_rfl) (k87b R101b) (by kernel_rfl) ⟨v101b, trivial⟩ ?_
  rintro lim vs H rs H' ⟨v, cs, r, w, xs, ck, rfl, hv, hH, hck, hw, hh, hc, rfl⟩ - - -
  simp [c87b, l87b, List.replicate]
  refine goCall_pure rfl ⟨v, cs, r, w, xs, ck, rfl, hv, hH, hck, hw, hh, hc, rfl⟩ (by simp) ?_
  simp [idx_ge, fitsAll, List.not_all_eq_any_not]
/- impl.solutions$1 -/
def Rr89 (n : Nat) : Rel := fun lim vs H rs H' => ∃ m : Nat, ∃ vt xs vc cs rm rf rc ro ckc old acc, vs = [vt, .ref rm 0, .ref rf 0, .ref rc 0, .ref ro 0] ∧ Sl 3 I vt xs ∧
  H[rm]? = some (.own, [I ((m + xs.length : Nat) : Int)]) ∧ lim ≤ rm ∧ rm ≠ ro ∧ H[rf]? = some (.fn, [.fn 89 [.ref rm 0, .ref rf 0, .ref rc 0, .ref ro 0]]) ∧ H[rc]? = some (ckc, [vc]) ∧ viewV lim rc ckc = .sh ∧ rc ≠ ro ∧
  H[ro]? = some (.own, [old]) ∧ lim ≤ ro ∧ Sl 24 (pR 3) old acc ∧ Sl 27 pC vc cs ∧
  m < n ∧ 2 ≤ m + xs.length ∧ m + xs.length ≤ 4 ∧ (∀ x ∈ xs, 1 ≤ x ∧ x ≤ 6) ∧ (∀ c ∈ cs, clueOk ((m + xs.length : Nat) : Int) c = true) ∧ acc.length + 6 ^ m ≤ 1048576 ∧
  rs = [] ∧ H' = H.set ro (.own, [addV 24 3 old acc (solsL cs m xs)]) ++ [(.own, [if m = 0 ∧ fitsAll cs xs = true then .undef else vt])]
def R89 : Rel := fun lim vs H rs H' => ∃ n, Rr89 n lim vs H rs H'
set_option maxHeartbeats 2000000 in
theorem vr89 (n : Nat) : SpecR Try.prog 89 sg89 (Rr89 n) := by
  induction n with
  | zero => exact specNone (fn := Try.f89) (by kernel_rfl) (by kernel_rfl) (by kernel_rfl) (by rintro lim vs H rs H' ⟨m, vt, xs, vc, cs, rm, rf, rc, ro, ckc, old, acc, _, _, _, _, _, _, _, _, _, _, _, _, _, h, _⟩; omega)
  | succ n ih =>
    refine fnZ 25 (by kernel_rfl) (fn := Try.f89) (by kernel_rfl) (by kernel_rfl) (k89 R72 R87b (Rr89 n)) (by kernel_rfl) ⟨v72, v87b, ih, trivial⟩ ?_
    rintro lim vs H rs H' ⟨m, vt, xs, vc, cs, rm, rf, rc, ro, ckc, old, acc, rfl, hvt, hrm, hlm, hmo, hrf, hrc, hvw, hco, hro, hlo, hold, hvc, hmn, hk2, hk4, hxs, hcs, hacc, rfl, rfl⟩ - hlim -
    have hrl : ro < H.length := H_lt hro
    have hfo : rf ≠ ro := by rintro rfl; rw [hrf] at hro; cases hro
    have app : ∀ {r : Nat} {b : CK × List PV} (x : CK × List PV), H[r]? = some b → (H ++ [x])[r]? = some b := fun x h => by rw [List.getElem?_append_left (H_lt h)]; exact h
    cases m with
    | zero =>
      have hid1 : hid xs = true := hid_mk (by omega) (by omega) hxs
      have hne : xs ≠ [] := by rintro rfl; simp at hk2
      have hx0 : (0 + xs.length : Nat) = xs.length := by omega
      rw [hx0] at hcs hrm
      simp [c89, List.replicate, hvt.undef, hvt.cells, hvt.len, app _ hrm, app _ hrc, hvc.undef, hvc.cells, l89]
      refine goCall_pure rfl ⟨vc, cs, H.length, vt, xs, .own, rfl, hvc, by simp, by simp, hvt, hid1, hcs, rfl⟩ (by simp) ?_
      obtain rfl := hvt.pR hne
      cases hf : fitsAll cs xs
      · simp [solsL, hf, addV_nil, set_same hro]
      · have happ := appR_one (xs := xs) hold (by simp at hacc; omega)
        rw [addV_one] at happ
        have hub := unbox_own (app (CK.own, [PV.undef]) hro)
        have hg : ((H ++ [(CK.own, [PV.undef])]).set ro (CK.own, [PV.undef]))[ro]? = some (.own, [.undef]) := List.getElem?_set_self (by rw [List.length_append]; omega)
        simp [app _ hro, hold.undef, hold.cells, happ, undefs, hub, hg]
        simp [List.set_append, hrl, addV_one, solsL, hf]
    | succ m =>
      have hlt0 : (xs.length : Int) < m + 1 + xs.length := by omega
      simp [c89, List.replicate, hvt.undef, hvt.cells, hvt.len, app _ hrm, hlt0]
      refine goL_intro (fun k σ H'' => ∃ s : Nat, s ≤ 6 ∧ k = 6 - s ∧ H'' = H.set ro (.own, [addV 24 3 old acc (solsP cs m xs s)]) ++ [(.own, [vt])] ∧ σ = slots 30 [(2, .ref rf 0), (5, .ref H.length 0), (6, I (s + 1))]) 6 ⟨0, by omega, by omega, by simp [solsP, addV_nil, set_same hro], by simp [slots, List.replicate]⟩ ?_
      rintro k σ H'' ⟨s, hs, rfl, rfl, rfl⟩
      obtain ⟨G, hG⟩ : ∃ G, G = H.set ro (.own, [addV 24 3 old acc (solsP cs m xs s)]) := ⟨_, rfl⟩
      have hGl : G.length = H.length := by rw [hG, List.length_set]
      have get : ∀ {r : Nat} {b : CK × List PV}, r ≠ ro → H[r]? = some b → (G ++ [(CK.own, [vt])])[r]? = some b := fun hr h => by
        rw [List.getElem?_append_left (by rw [hGl]; exact H_lt h), hG, List.getElem?_set_ne (Ne.symm hr)]; exact h
      have gro : (G ++ [(CK.own, [vt])])[ro]? = some (.own, [addV 24 3 old acc (solsP cs m xs s)]) := by
        rw [List.getElem?_append_left (by omega), hG]; exact List.getElem?_set_self hrl
      have gt : (G ++ [(CK.own, [vt])])[H.length]? = some (.own, [vt]) := by rw [← hGl]; simp
      have grf := get hfo hrf
      have grm := get hmo hrm
      have grc := get hco hrc
      have hGs : ∀ X, (G ++ [(CK.own, [vt])]).set ro X = H.set ro X ++ [(CK.own, [vt])] := fun X => by rw [List.set_append_left _ _ (by omega), hG, List.set_set]
      rw [← hG]
      simp [slots, List.replicate]
      refine ⟨fun hlt => ?_, fun hge => ?_⟩
      · simp [grf, gt, hvt.undef, hvt.cells, l89]
        refine goCall_pure rfl ⟨vt, xs, rfl, hvt, by omega, rfl⟩ (by simp) ?_
        have hap : appV 3 8 true vt (.sl 3 [I (s + 1)]) = some (.sl 3 ((xs ++ [(s : Int) + 1]).map I)) := hvt.app1 (⟨.inl rfl, by simp⟩ : Sl 3 I (.sl 3 [I (s + 1)]) [(s : Int) + 1]) (by simp) (by simp; omega)
        simp [hap]
        have hsl := solsP_len (cs := cs) (n := m) (xs := xs) (s := s)
        have hpw : 6 ^ (m + 1) = 6 ^ m * 6 := Nat.pow_succ ..
        have hs6 : s * 6 ^ m + 6 ^ m ≤ 6 ^ m * 6 := by
          have : (s + 1) * 6 ^ m ≤ 6 * 6 ^ m := Nat.mul_le_mul_right _ (by omega)
          rw [Nat.add_mul] at this; omega
        have hlx : (xs ++ [(s : Int) + 1]).length = xs.length + 1 := by simp
        have hmx : m + (xs ++ [(s : Int) + 1]).length = m + 1 + xs.length := by omega
        refine goCall_imp rfl ⟨m, .sl 3 ((xs ++ [(s : Int) + 1]).map I), xs ++ [(s : Int) + 1], vc, cs, rm, rf, rc, ro, ckc, addV 24 3 old acc (solsP cs m xs s), acc ++ solsP cs m xs s, by simp, ⟨.inl rfl, by omega⟩, by rw [hmx]; exact grm, hlm, hmo, grf, grc, hvw, hco, gro, hlo, addV_sl hold (by omega), hvc, by omega, by omega, by omega, ?_, by rw [hmx]; exact hcs, by rw [List.length_append]; omega, rfl, rfl⟩ ?_ ?_
        · intro x hx
          rw [List.mem_append] at hx
          rcases hx with hx | hx
          · exact hxs x hx
          · simp at hx; omega
        · refine ⟨by simp, ?_, ?_, ?_, ?_, trivial⟩
          · simp only [argV, grm]; exact viewV_own hlm
          · simp only [argV, grf]; exact viewV_fn
          · simp only [argV, grc]; exact hvw
          · simp only [argV, gro]; exact viewV_own hlo
        · rw [mergeH_tail (by simp), mergeH_set gro (keepB_own hlo), hGs, addV_add, ← solsP_succ]
          simp
          refine ⟨6 - (s + 1), by omega, s + 1, by omega, rfl, rfl, ?_⟩
          rw [wrap_id (by omega) (by omega)]; simp
      · obtain rfl : s = 6 := by omega
        rw [hG]; rfl
theorem v89 : SpecR Try.prog 89 sg89 R89 := specEx vr89
end Go.Proofs.Ytfljbfgceilppaa
set_option autoImplicit false
set_option linter.unusedVariables false
set_option linter.unusedSimpArgs false
set_option linter.unnecessarySimpa false
namespace Go.Proofs.Ytfljbfgceilppaa
open Go.Den
/- impl.solutions -/
def R70 : Rel := fun _ vs _ rs _ => ∃ n v cs, vs = [I n, v] ∧ Sl 27 pC v cs ∧ 2 ≤ n ∧ n ≤ 4 ∧ (∀ c ∈ cs, clueOk n c = true) ∧ rs = [addV 24 3 (.sl 24 []) [] (sols n cs)]
theorem v70 : SpecR Try.prog 70 sg70 R70 := by
  refine fnZ 10 (by kernel_rfl) (fn := Try.f70) (by kernel_rfl) (by kernel_rfl) (k70 R89) (by kernel_rfl) ⟨v89, trivial⟩ ?_
  rintro lim vs H rs H' ⟨n, v, cs, rfl, hv, hn1, hn2, hcs, rfl⟩ - hlim -
  obtain ⟨m, rfl⟩ : ∃ m : Nat, n = m := ⟨n.toNat, by omega⟩
  have h0 : Sl 24 (pR 3) (.sl 24 []) [] := ⟨.inl rfl, by simp⟩
  have hs := sols_len (n := (m : Int)) (cs := cs) hn2
  have hS := addV_sl h0 (l := sols m cs) (by simp; omega)
  have e : sols m cs = solsL cs m [] := by simp [sols]
  simp [c70, l70, List.replicate, hv.undef, hv.cells]
  obtain ⟨T, hT⟩ : ∃ T : Boxes, T = [(.own, [I m]), (.sh, [v]), (.own, [.sl 24 []]), (.fn, [.fn 89 [.ref H.length 0, .ref (H.length + 3) 0, .ref (H.length + 1) 0, .ref (H.length + 2) 0]])] := ⟨_, rfl⟩
  have e1 : ∀ i, (H ++ T)[H.length + i]? = T[i]? := fun i => by rw [List.getElem?_append_right (by omega)]; congr 1; omega
  have e0 : (H ++ T)[H.length]? = T[0]? := e1 0
  have gm : (H ++ T)[H.length]? = some (.own, [I m]) := by rw [e0, hT]; rfl
  have gc : (H ++ T)[H.length + 1]? = some (.sh, [v]) := by rw [e1, hT]; rfl
  have go : (H ++ T)[H.length + 2]? = some (.own, [.sl 24 []]) := by rw [e1, hT]; rfl
  have gf : (H ++ T)[H.length + 3]? = some (.fn, [.fn 89 [.ref H.length 0, .ref (H.length + 3) 0, .ref (H.length + 1) 0, .ref (H.length + 2) 0]]) := by rw [e1, hT]; rfl
  have hlo : lim ≤ H.length + 2 := by omega
  rw [← hT]
  refine goCall_imp rfl ⟨m + 1, m, .nil, [], v, cs, H.length, H.length + 3, H.length + 1, H.length + 2, .sh, .sl 24 [], [], rfl, ⟨.inr ⟨rfl, rfl⟩, by simp⟩, by simpa using gm, hlim, by omega, gf, gc, by simp [viewV], by omega, go, hlo, h0, hv, by omega, by simp; omega, by simp; omega, by simp, by simpa using hcs, ?_, rfl, rfl⟩ ?_ ?_
  · have : 6 ^ m ≤ 6 ^ 4 := Nat.pow_le_pow_right (by omega) (by omega)
    simp; omega
  · refine ⟨by simp, ?_, ?_, ?_, ?_, trivial⟩
    · simp only [argV, gm]; exact viewV_own hlim
    · simp only [argV, gf]; exact viewV_fn
    · simp only [argV, gc]; simp [viewV]
    · simp only [argV, go]; exact viewV_own hlo
  · rw [mergeH_tail (by simp), mergeH_set go (keepB_own hlo), ← e]
    simp [hT, hS.undef, hS.cells]
/- impl.Solutions -/
def R39 : Rel := fun _ vs _ rs _ => ∃ n v cs, vs = [pP n v] ∧ Sl 27 pC v cs ∧ rs = [if okP n cs then addV 24 3 (.sl 24 []) [] (sols n cs) else .nil, .bool (okP n cs)]
theorem v39 : SpecR Try.prog 39 sg39 R39 := by
  refine fnZ 11 (by kernel_rfl) (fn := Try.f39) (by kernel_rfl) (by kernel_rfl) (k39 R69 R70) (by kernel_rfl) ⟨v69, v70, trivial⟩ ?_
  rintro lim vs H rs H' ⟨n, v, cs, rfl, hv, rfl⟩ - - -
  simp [c39, l39, List.replicate, hv.undef, hv.cells]
  refine goCall_pure rfl ⟨n, v, cs, rfl, hv, rfl⟩ (by simp) ?_
  cases h : okP n cs
  · simp
  · obtain ⟨h1, h2, h3, h4⟩ := okP_spec h
    have h0 : Sl 24 (pR 3) (.sl 24 []) [] := ⟨.inl rfl, by simp⟩
    have hs := sols_len (cs := cs) h2
    have hS := addV_sl h0 (l := sols n cs) (by simp; omega)
    simp [hv.undef, hv.cells]
    refine goCall_pure rfl ⟨n, v, cs, rfl, hv, h1, h2, h4, rfl⟩ (by simp) ?_
    simp [hS.undef]
/- spec.CountSolutions -/
def R26 : Rel := fun _ vs _ rs _ => ∃ n v cs, vs = [pP n v] ∧ Sl 27 pC v cs ∧ rs = [I (if okP n cs then (sols n cs).length else 0), .bool (okP n cs)]
theorem v26 : SpecR Try.prog 26 sg26 R26 := by
  refine fnZ 12 (by kernel_rfl) (fn := Try.f26) (by kernel_rfl) (by kernel_rfl) (k26 R65 R66) (by kernel_rfl) ⟨v65, v66, trivial⟩ ?_
  rintro lim vs H rs H' ⟨n, v, cs, rfl, hv, rfl⟩ - - -
  simp [c26, l26, List.replicate, hv.undef, hv.cells]
  refine goCall_pure rfl ⟨n, v, cs, rfl, hv, rfl⟩ (by simp) ?_
  cases h : okP n cs
  · simp
  · obtain ⟨h1, h2, h3, h4⟩ := okP_spec h
    have h0 : Sl 24 (pR 3) .nil [] := ⟨.inr ⟨rfl, rfl⟩, by simp⟩
    have hs := sols_len (cs := cs) h2
    have hS := addV_sl h0 (l := sols n cs) (by simp; omega)
    simp [hv.undef, hv.cells]
    refine goCall_pure rfl ⟨n, v, cs, rfl, hv, h1, h2, h4, rfl⟩ (by simp) ?_
    simp [hS.undef, hS.len]
/- impl.CountSolutions -/
def R28 : Rel := fun _ vs _ rs _ => ∃ n v cs, vs = [pP n v] ∧ Sl 27 pC v cs ∧ rs = [I (if okP n cs then (sols n cs).length else 0), .bool (okP n cs)]
theorem v28 : SpecR Try.prog 28 sg28 R28 := by
  refine fnZ 13 (by kernel_rfl) (fn := Try.f28) (by kernel_rfl) (by kernel_rfl) (k28 R39) (by kernel_rfl) ⟨v39, trivial⟩ ?_
  rintro lim vs H rs H' ⟨n, v, cs, rfl, hv, rfl⟩ - - -
  simp [c28, l28, List.replicate, hv.undef, hv.cells]
  refine goCall_pure rfl ⟨n, v, cs, rfl, hv, rfl⟩ (by simp) ?_
  cases h : okP n cs
  · simp
  · obtain ⟨h1, h2, h3, h4⟩ := okP_spec h
    have h0 : Sl 24 (pR 3) (.sl 24 []) [] := ⟨.inl rfl, by simp⟩
    have hs := sols_len (cs := cs) h2
    have hS := addV_sl h0 (l := sols n cs) (by simp; omega)
    simp [hS.undef, hS.len]
/- spec.pzSolved -/
def R68 : Rel := fun _ vs _ rs _ => ∃ n v cs, vs = [I n, v] ∧ Sl 27 pC v cs ∧ 2 ≤ n ∧ n ≤ 4 ∧ (∀ c ∈ cs, clueOk n c = true) ∧ rs = [.bool (decide ((sols n cs).length = 1))]
theorem v68 : SpecR Try.prog 68 sg68 R68 := by
  refine fnZ 8 (by kernel_rfl) (fn := Try.f68) (by kernel_rfl) (by kernel_rfl) (k68 R66) (by kernel_rfl) ⟨v66, trivial⟩ ?_
  rintro lim vs H rs H' ⟨n, v, cs, rfl, hv, hn1, hn2, hcs, rfl⟩ - - -
  have h0 : Sl 24 (pR 3) .nil [] := ⟨.inr ⟨rfl, rfl⟩, by simp⟩
  have hs := sols_len (cs := cs) hn2
  have hS := addV_sl h0 (l := sols n cs) (by simp; omega)
  simp [c68, l68, List.replicate]
  refine goCall_pure rfl ⟨n, v, cs, rfl, hv, hn1, hn2, hcs, rfl⟩ (by simp) ?_
  have hI : (((sols n cs).length : Int) == 1) = decide ((sols n cs).length = 1) := by rw [Bool.eq_iff_iff, beq_iff_eq, decide_eq_true_iff]; omega
  simp [hS.undef, hS.len, hI]
/- spec.IsSolved -/
def R29 : Rel := fun _ vs _ rs _ => ∃ n v cs, vs = [pP n v] ∧ Sl 27 pC v cs ∧ rs = [.bool (okP n cs && decide ((sols n cs).length = 1)), .bool (okP n cs)]
theorem v29 : SpecR Try.prog 29 sg29 R29 := by
  refine fnZ 11 (by kernel_rfl) (fn := Try.f29) (by kernel_rfl) (by kernel_rfl) (k29 R65 R68) (by kernel_rfl) ⟨v65, v68, trivial⟩ ?_
  rintro lim vs H rs H' ⟨n, v, cs, rfl, hv, rfl⟩ - - -
  simp [c29, l29, List.replicate, hv.undef, hv.cells]
  refine goCall_pure rfl ⟨n, v, cs, rfl, hv, rfl⟩ (by simp) ?_
  cases h : okP n cs
  · simp
  · obtain ⟨h1, h2, h3, h4⟩ := okP_spec h
    simp [hv.undef, hv.cells]
    refine goCall_pure rfl ⟨n, v, cs, rfl, hv, h1, h2, h4, rfl⟩ (by simp) ?_
    simp
/- impl.IsSolved -/
def R30 : Rel := fun _ vs _ rs _ => ∃ n v cs, vs = [pP n v] ∧ Sl 27 pC v cs ∧ rs = [.bool (okP n cs && decide ((sols n cs).length = 1)), .bool (okP n cs)]
theorem v30 : SpecR Try.prog 30 sg30 R30 := by
  refine fnZ 13 (by kernel_rfl) (fn := Try.f30) (by kernel_rfl) (by kernel_rfl) (k30 R28) (by kernel_rfl) ⟨v28, trivial⟩ ?_
  rintro lim vs H rs H' ⟨n, v, cs, rfl, hv, rfl⟩ - - -
  simp [c30, l30, List.replicate, hv.undef, hv.cells]
  refine goCall_pure rfl ⟨n, v, cs, rfl, hv, rfl⟩ (by simp) ?_
  cases h : okP n cs
  · simp
  · have hI : (((sols n cs).length : Int) == 1) = decide ((sols n cs).length = 1) := by rw [Bool.eq_iff_iff, beq_iff_eq, decide_eq_true_iff]; omega
    simp [hI]
/- laws.FnExactCountSolutions -/
def R5 : Rel := fun _ vs _ rs _ => ∃ n v xs, vs = [pP n v] ∧ Sl 23 pC v xs ∧ rs = [.bool true]
theorem v5 : SpecR Try.prog 5 sg5 R5 := by
  refine fnZ 39 (by kernel_rfl) (fn := Try.f5) (by kernel_rfl) (by kernel_rfl) (k5 R25 R27 R26 R28 R21) (by kernel_rfl) ⟨v25, v27, v26, v28, v21, trivial⟩ ?_
  rintro lim vs H rs H' ⟨n, v, xs, rfl, hv, rfl⟩ - - -
  simp [c5, l5, List.replicate, hv.undef, hv.cells]
  refine goCall_pure rfl ⟨n, v, xs, _, rfl, hv, by omega, by omega, rfl⟩ (by simp) ?_
  by_cases hb : 1048576 - (xs.length : Int) < 0
  · simp [hb]
  · have hl : xs.length ≤ 1048576 := by omega
    have hw : Sl 27 pC (.sl 27 (xs.map pC)) xs := ⟨.inl rfl, by omega⟩
    rw [if_neg hb]
    simp [hb, hv.undef, hv.cells]
    refine goCall_pure rfl ⟨n, v, xs, rfl, hv, hl, rfl⟩ (by simp) ?_
    simp
    refine goCall_pure rfl ⟨n, _, xs, rfl, hw, rfl⟩ (by simp) ?_
    simp [hv.undef, hv.cells]
    refine goCall_pure rfl ⟨n, v, xs, rfl, hv, hl, rfl⟩ (by simp) ?_
    simp
    refine goCall_pure rfl ⟨n, _, xs, rfl, hw, rfl⟩ (by simp) ?_
    simp [hv.undef, hv.cells]
    refine goCall_pure rfl ⟨n, v, xs, rfl, hv, hl, rfl⟩ (by simp) ?_
    simp
    refine goCall_pure rfl ⟨n, _, xs, n, _, xs, rfl, hw, hw, rfl⟩ (by simp) ?_
    simp
/- laws.FnExactIsSolved -/
def R6 : Rel := fun _ vs _ rs _ => ∃ n v xs, vs = [pP n v] ∧ Sl 23 pC v xs ∧ rs = [.bool true]
theorem v6 : SpecR Try.prog 6 sg6 R6 := by
  refine fnZ 39 (by kernel_rfl) (fn := Try.f6) (by kernel_rfl) (by kernel_rfl) (k6 R25 R27 R29 R30 R21) (by kernel_rfl) ⟨v25, v27, v29, v30, v21, trivial⟩ ?_
  rintro lim vs H rs H' ⟨n, v, xs, rfl, hv, rfl⟩ - - -
  simp [c6, l6, List.replicate, hv.undef, hv.cells]
  refine goCall_pure rfl ⟨n, v, xs, _, rfl, hv, by omega, by omega, rfl⟩ (by simp) ?_
  by_cases hb : 1048576 - (xs.length : Int) < 0
  · simp [hb]
  · have hl : xs.length ≤ 1048576 := by omega
    have hw : Sl 27 pC (.sl 27 (xs.map pC)) xs := ⟨.inl rfl, by omega⟩
    rw [if_neg hb]
    simp [hb, hv.undef, hv.cells]
    refine goCall_pure rfl ⟨n, v, xs, rfl, hv, hl, rfl⟩ (by simp) ?_
    simp
    refine goCall_pure rfl ⟨n, _, xs, rfl, hw, rfl⟩ (by simp) ?_
    simp [hv.undef, hv.cells]
    refine goCall_pure rfl ⟨n, v, xs, rfl, hv, hl, rfl⟩ (by simp) ?_
    simp
    refine goCall_pure rfl ⟨n, _, xs, rfl, hw, rfl⟩ (by simp) ?_
    simp [hv.undef, hv.cells]
    refine goCall_pure rfl ⟨n, v, xs, rfl, hv, hl, rfl⟩ (by simp) ?_
    simp
    refine goCall_pure rfl ⟨n, _, xs, n, _, xs, rfl, hw, hw, rfl⟩ (by simp) ?_
    simp
end Go.Proofs.Ytfljbfgceilppaa
/- What comes in, by its type: numbers, clues, puzzles. Conditions: none. -/
set_option autoImplicit false
set_option linter.unusedVariables false
namespace Go.Proofs.Ytfljbfgceilppaa
open Go.Den Go.ChangeShapes Go.WideShapes Go.ChangeAt Go.RowKit

theorem toSl {α : Type} {e : Nat} {f : α → PV} {agg : Bool} {Q : List PV → Prop} {v : PV} {xs : List (List PV)} (hq : ∀ x, Q x → ∃ a : α, mkEl agg x = f a) (h : v = .nil ∧ xs = [] ∨ v = .sl e (xs.map (mkEl agg))) (hl : xs.length ≤ 9223372036854775807) (hx : ∀ x ∈ xs, Q x) : ∃ ns, Sl e f v ns := by
  have key : ∀ xs : List (List PV), (∀ x ∈ xs, Q x) → ∃ ns : List α, xs.map (mkEl agg) = ns.map f := by
    intro xs
    induction xs with
    | nil => intro _; exact ⟨[], rfl⟩
    | cons x xs ih =>
      intro hx
      obtain ⟨ns, h1⟩ := ih fun y hy => hx y (by simp [hy])
      obtain ⟨a, h2⟩ := hq x (hx x (by simp))
      exact ⟨a :: ns, by simp [h1, h2]⟩
  rcases h with ⟨rfl, rfl⟩ | rfl
  · exact ⟨[], .inr ⟨rfl, rfl⟩, by simp⟩
  · obtain ⟨ns, h1⟩ := key xs hx
    have : ns.length = xs.length := by have := congrArg List.length h1; simpa using this.symm
    exact ⟨ns, .inl (by rw [h1]), by omega⟩

theorem cells3 : Try.prog.cellsOf 3 = 1 := by kernel_rfl
theorem oI {need : Bool} : Opens need Try.prog 3 1 (fun vs => ∃ n, vs = [I n]) := (Opens.int Try.underlying3 cells3).mono fun _ ⟨n, h, _⟩ => ⟨n, h⟩
theorem o23 : Opens false Try.prog 23 4 (fun vs => ∃ x : Cl, vs = [I x.k, I x.a, I x.b, I x.c]) := (Opens.st4 Try.underlying23 (by kernel_rfl) oI oI oI oI rfl rfl rfl rfl).mono fun vs ⟨a, b, c, d, h, ⟨n0, h0⟩, ⟨n1, h1⟩, ⟨n2, h2⟩, ⟨n3, h3⟩⟩ => ⟨⟨n0, n1, n2, n3⟩, by rw [h, h0, h1, h2, h3]; rfl⟩
theorem o24 : Opens true Try.prog 24 1 (fun vs => ∃ v ns, vs = [v] ∧ Sl 3 I v ns) :=
  (Opens.sl false oI Try.underlying24 (by kernel_rfl) (by omega) (fun _ => ⟨rfl, fun vs ⟨n, h⟩ => by rw [h]; rfl⟩)).mono fun vs ⟨v, xs, h1, h2, h3, h4⟩ => by
    obtain ⟨ns, hs⟩ := toSl (f := I) (fun x ⟨n, h⟩ => ⟨n, by rw [h]; rfl⟩) h2 h3 h4
    exact ⟨v, ns, h1, hs⟩
theorem o41 : Opens true Try.prog 41 1 (fun vs => ∃ v ns, vs = [v] ∧ Sl 23 pC v ns) :=
  (Opens.sl true o23 Try.underlying41 (by kernel_rfl) (by omega) (fun h => by cases h)).mono fun vs ⟨v, xs, h1, h2, h3, h4⟩ => by
    obtain ⟨ns, hs⟩ := toSl (f := pC) (fun x ⟨n, h⟩ => ⟨n, by rw [h]; rfl⟩) h2 h3 h4
    exact ⟨v, ns, h1, hs⟩
theorem o43 : Opens true Try.prog 43 2 (fun vs => ∃ n v xs, vs = [I n, v] ∧ Sl 23 pC v xs) := (Opens.st2 Try.underlying43 (by kernel_rfl) oI o41 rfl rfl).mono
  fun vs ⟨a, b, h, ⟨n, h0⟩, ⟨v, xs, h1, s1⟩⟩ => ⟨n, v, xs, by rw [h, h0, h1]; rfl, s1⟩
theorem own : ownKnob Try.prog.godebug = none := by kernel_rfl
theorem laidOut : laidOutB Try.prog = true := by kernel_rfl
end Go.Proofs.Ytfljbfgceilppaa
