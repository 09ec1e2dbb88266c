/- Whether a box fits into another one, through the sorts of the library. Conditions: none. -/
import Derived.RangeFuncBox
import Derived.RangeFuncLeaves
import Derived.Shelf.Abstract
import Derived.WalkKit
import Derived.OwnWalkIn
import Derived.TacticsInMore
import Derived.LoopNIn
import Derived.LoopIn
import Derived.WalkSpells
import Derived.Test.YtnkjbncagnfnoaaProg
import Derived.RangeFuncFrom
import Derived.Shelf.SortM.Plain
import Derived.Shelf.SortM.SortNone
import Derived.Ground.SlgmProg
import Derived.Lib.SlKeysI
import Derived.Sort.OwnSorted
import Derived.Test.YtnkjbncagnfnoaaVn
import Derived.Test.YtnkjbncagnfnoaaDenD
import Derived.Shelf.RegionOpen
import Derived.RangeFuncCalls
set_option linter.unusedVariables false
set_option linter.unusedSimpArgs false
set_option linter.unnecessarySimpa false
/- slices.Values over a row of numbers: its iterator hands over all of them, in order, whatever the rounds do that keep what lay. Conditions: the rows are within the reach. -/
set_option autoImplicit false
set_option linter.unusedVariables false
set_option linter.unusedSimpArgs false
namespace Go.Proofs.Ytnkjbncagnfnoaa
open Go.RowKit Go.Shelf
attribute [local go_sem] Oper.semAt_some

/-- What has come when k rounds are over. -/
def upto (f : Nat → Int) (k : Nat) : List Int := (List.range k).map f
theorem upto_succ (f : Nat → Int) (k : Nat) : upto f (k + 1) = upto f k ++ [f k] := by simp [upto, List.range_succ]
theorem upto_length (f : Nat → Int) (k : Nat) : (upto f k).length = k := by simp [upto]
theorem upto_all (zs : List Int) : upto (fun j => zs[j]?.getD 0) zs.length = zs := by
  apply List.ext_getElem
  · simp [upto]
  · intro i h1 h2
    simp [upto, h2]

set_option maxRecDepth 100000 in
set_option maxHeartbeats 2000000 in
theorem values1_in (F : Fence) (n : Nat) (h7 : F.fn 103) (hro : F.round = none) (hn : 1 ≤ n) (l Bs n₀ b off len cap : Nat) (zs : List Int) (hreach : len * 8 ≤ 140737488351232) (hb : b < n₀) (J Jx : List Int → World → Prop)
    (hY : ∀ pre x W, J pre W → pre.length < len → YieldAt F (n - 1) Try.prog l #[.int .i64 x] W fun e W' =>
      (e = .returned (.bool true) ∧ J (pre ++ [x]) W' ∧ Below n₀ W W') ∨ (e = .returned (.bool false) ∧ Jx (pre ++ [x]) W'))
    (W : World) (hBs : W.cell? ⟨Bs, 0, none⟩ = some (.slice (some ⟨b, off, none⟩) len cap)) (hc : ∀ j, j < len → W.cell? ⟨b, off + j, none⟩ = some (.int .i64 (zs[j]?.getD 0))) (h0 : J [] W) :
    CallsIn F n Try.prog 103 #[.func (.yield l) #[] #[], .pointer (some ⟨Bs, 0, none⟩)] W fun e W' => (∃ v, e = .returned v) ∧
      ((∃ ys, ys = upto (fun j => zs[j]?.getD 0) len ∧ J ys W') ∨ (∃ pre, (∃ k, k ≤ len ∧ pre = upto (fun j => zs[j]?.getD 0) k) ∧ Jx pre W')) := by
  refine callsIn_of_wp Try.func103 rfl h7 ?_ hro
  simp only [Try.ntmps103, List.size_toArray, List.length_cons, List.length_nil, Nat.reduceAdd, Nat.reduceSub, Array.replicate_succ, Array.replicate_zero, List.push_toArray, List.append_toArray, List.nil_append, List.cons_append]
  gi_wp2
  gi_loopw [7] (fun i wr => ∃ k : Nat, k ≤ len ∧ i = .int .i64 k ∧ J (upto (fun j => zs[j]?.getD 0) k) wr ∧ Below n₀ W wr)
    (fun i _ => len - (intOf i).toNat)
  case atStart => exact ⟨0, Nat.zero_le _, rfl, h0, Below.refl _ _⟩
  case round =>
    obtain ⟨k, hk, rfl, hJs, hnx⟩ := hrel
    have hcx : k < len → wr.cell? ⟨b, off + k, none⟩ = some (.int .i64 (zs[k]?.getD 0)) := fun h => (hnx.cell (p := ⟨b, off + k, none⟩) hb).trans (hc k h)
    by_cases hlt : k < len
    · obtain ⟨fn, tmps, assign, body, hy, hR⟩ := hY _ (zs[k]?.getD 0) wr hJs (by rw [upto_length]; exact hlt)
      have hcx' := hcx hlt
      gi_wp2
      refine hR.mono ?_
      rintro e W3 (⟨rfl, hJ3, hk3⟩ | ⟨rfl, hJx3⟩)
      · gi_wp2
        go_roundw
        case rel => exact ⟨k + 1, by omega, by simp, by rw [upto_succ]; exact hJ3, hnx.trans hk3⟩
        case measure => simp [intOf]; omega
      · gi_wp2
        refine bodyPost_ret (results_none rfl _ _ _) rfl ?_
        exact ⟨⟨_, rfl⟩, .inr ⟨_, ⟨k + 1, by omega, (upto_succ _ _).symm⟩, hJx3⟩⟩
    · obtain rfl : k = len := by omega
      gi_wp2
      go_end0
      exact ⟨⟨_, rfl⟩, .inl ⟨_, rfl, hJs⟩⟩

set_option maxRecDepth 100000 in
set_option maxHeartbeats 1000000 in
/-- .. at the nil slice: no round. -/
theorem values1_nil_in (F : Fence) (n : Nat) (h7 : F.fn 103) (hro : F.round = none) (l Bs : Nat) (J : List Int → World → Prop) (W : World) (hBs : W.cell? ⟨Bs, 0, none⟩ = some (.slice none 0 0)) (h0 : J [] W) :
    CallsIn F n Try.prog 103 #[.func (.yield l) #[] #[], .pointer (some ⟨Bs, 0, none⟩)] W fun e W' => (∃ v, e = .returned v) ∧ J [] W' := by
  refine callsIn_of_wp Try.func103 rfl h7 ?_ hro
  simp only [Try.ntmps103, List.size_toArray, List.length_cons, List.length_nil, Nat.reduceAdd, Nat.reduceSub, Array.replicate_succ, Array.replicate_zero, List.push_toArray, List.append_toArray, List.nil_append, List.cons_append]
  gi_wp2
  gi_loopw [7] (fun i wr => i = .int .i64 0 ∧ J [] wr) (fun _ _ => 0)
  case atStart => exact ⟨rfl, h0⟩
  case round =>
    obtain ⟨rfl, hJs⟩ := hrel
    gi_wp2
    go_end0
    exact ⟨⟨_, rfl⟩, hJs⟩

theorem upto_take (zs : List Int) {k : Nat} (hk : k ≤ zs.length) : upto (fun j => zs[j]?.getD 0) k = zs.take k := by
  apply List.ext_getElem
  · simp [upto, hk]
  · intro i h1 h2
    have : i < zs.length := by simp [upto] at h1; omega
    simp [upto, this]

/-- The slice value holds the numbers zs, in a block below n₀; or it is nil and there are none. -/
def Ints (n₀ : Nat) (W : World) (sv : Value) (zs : List Int) : Prop :=
  (sv = .slice none 0 0 ∧ zs = []) ∨ ∃ b off cap, sv = .slice (some ⟨b, off, none⟩) zs.length cap ∧ b < n₀ ∧ ∀ j, j < zs.length → W.cell? ⟨b, off + j, none⟩ = some (.int .i64 (zs[j]?.getD 0))
theorem Ints.below {n₀ : Nat} {A B : World} (h : Below n₀ A B) {sv : Value} {zs : List Int} : Ints n₀ A sv zs → Ints n₀ B sv zs
  | .inl e => .inl e
  | .inr ⟨b, off, cap, e, hb, hc⟩ => .inr ⟨b, off, cap, e, hb, fun j hj => (h.cell (p := ⟨b, off + j, none⟩) hb).trans (hc j hj)⟩

theorem values_stops (F : Fence) (n : Nat) (h7 : F.fn 103) (hro : F.round = none) (hn : 1 ≤ n) (Bs n₀ : Nat) (sv : Value) (zs : List Int) (hreach : zs.length * 8 ≤ 140737488351232) (w : World) (hBs : Bs < w.heap.size) (hn₀ : n₀ ≤ w.heap.size)
    (hc : w.cell? ⟨Bs, 0, none⟩ = some sv) (hI : Ints n₀ w sv zs) :
    SeqStopsK F n Try.prog 103 #[.pointer (some ⟨Bs, 0, none⟩)] (fun x : Int => #[Value.int .i64 x]) (Below n₀) (fun ys => ys = zs) (fun pre => pre <+: zs) zs.length w := fun l J Jx W hW _ _ hY h0 => by
  have hc' := (hW.cell (p := ⟨Bs, 0, none⟩) hBs).trans hc
  rcases hI.below (hW.mono hn₀) with ⟨rfl, rfl⟩ | ⟨b, off, cap, rfl, hb, hcs⟩
  · exact (values1_nil_in F n h7 hro l Bs J W hc' h0).mono fun e W' ⟨he, hj⟩ => ⟨he, .inl ⟨_, rfl, hj⟩⟩
  · refine (values1_in F n h7 hro hn l Bs n₀ b off zs.length cap zs hreach hb J Jx hY W hc' hcs h0).mono ?_
    rintro e W' ⟨he, ⟨ys, rfl, hj⟩ | ⟨pre, ⟨k, hk, rfl⟩, hj⟩⟩
    · exact ⟨he, .inl ⟨_, upto_all zs, hj⟩⟩
    · exact ⟨he, .inr ⟨_, by rw [upto_take zs hk]; exact List.take_prefix _ _, hj⟩⟩
end Go.Proofs.Ytnkjbncagnfnoaa
/- slices.Collect over slices.Values: a row of its own that holds the same numbers. Conditions: the row is within the reach. -/
set_option autoImplicit false
set_option linter.unusedVariables false
set_option linter.unusedSimpArgs false
namespace Go.Proofs.Ytnkjbncagnfnoaa
open Go.RowKit Go.Shelf
attribute [local go_sem] Oper.semAt_some

abbrev eI (n : Int) : Value := .int .i64 n
theorem row_ne {W : World} {base : Nat} {e : TypeId} {size : Nat} {v : Value} {k : Nat} {xs : List Value} (h : W.ownsRow base e size v k xs) {j : Nat} {o : Obj} (hj : W.heap[j]? = some o) (hno : ∀ cur, o ≠ .cells cur e (0, 0)) :
    v.ownBlock = none ∨ v.ownBlock ≠ some j := by
  rcases h.2 with ⟨rfl, _⟩ | ⟨g, cap, cur, rfl, _, hgb, _⟩
  · exact .inl rfl
  · refine .inr fun e' => ?_
    have : g = j := by simpa [Value.ownBlock] using e'
    subst this; rw [hgb] at hj; cases hj; exact hno cur rfl
theorem box_cell {W : World} {B : Nat} {v : Value} {t : TypeId} (h : W.heap[B]? = some (.cells #[v] t (0, 0))) : W.cell? ⟨B, 0, none⟩ = some v ∧ W.frozen? ⟨B, 0, none⟩ = false := by
  constructor <;> simp [World.cell?, World.frozen?, h]
theorem box_set {W : World} {B : Nat} {v : Value} {t : TypeId} (v' : Value) (h : W.heap[B]? = some (.cells #[v] t (0, 0))) : (W.setCell ⟨B, 0, none⟩ v').heap[B]? = some (.cells #[v'] t (0, 0)) := by
  obtain ⟨hlt, hk⟩ := Array.getElem?_eq_some_iff.1 h
  show (W.heap.modify B _)[B]? = _
  rw [Array.getElem?_eq_getElem (by rw [Array.size_modify]; exact hlt), Array.getElem_modify_self, hk]
  rfl
theorem box_grown (W : World) (b : Nat) (v : Value) : W.grownBy (W.setCell ⟨b, 0, none⟩ v) (some b) :=
  ⟨rfl, rfl, rfl, (KeepsOthers.setCell W _ v).size, fun k _ hk => Below.heap_setCell _ _ _ k (fun e => hk (by rw [e]))⟩
/-- Between two rounds: the box holds a row of its own with what has come. -/
def ApI (w : World) (B : Nat) (pre : List Int) (W : World) : Prop :=
  (∃ v, W.heap[B]? = some (.cells #[v] 30 (0, 0)) ∧ W.ownsRow w.heap.size 3 1 v pre.length (pre.map eI)) ∧ Below w.heap.size w W
theorem apI_own (w : World) (B n : Nat) (hn : w.heap.size ≤ n) : OwnFrom n (ApI w B) := fun s A C row hs hg hr => by
  obtain ⟨⟨v, h1, h2⟩, h3⟩ := hs
  refine ⟨⟨v, ?_, ?_⟩, h3.grown hg h3.size fun k e => Nat.le_trans hn (hr k e).1⟩
  · rw [hg.block B (Array.getElem?_eq_some_iff.1 h1).1 (fun e => by obtain ⟨_, o, ho, hc⟩ := hr B e.symm; rw [h1] at ho; cases ho; cases hc)]; exact h1
  · refine h2.kept hg ?_
    rcases h2.2 with ⟨rfl, _⟩ | ⟨g, cap, cur, rfl, _, hgb, _⟩
    · exact .inl rfl
    · refine .inr fun e' => ?_
      obtain ⟨_, o, ho, hc⟩ := hr g (by simpa [Value.ownBlock] using e'.symm)
      rw [hgb] at ho; cases ho; cases hc
theorem u30 : Try.prog.underlying 30 = some (.slice 3) := Try.underlying30
theorem i3 : (Try.prog.info? 3).map (fun i => (i.zero, i.size, i.bytes)) = some (some (.int .i64 0), 1, 8) := by kernel_rfl

set_option maxRecDepth 100000 in
set_option maxHeartbeats 2000000 in
theorem appendSeq_in (n : Nat) (hn : 3 ≤ n) (Bs n₀ : Nat) (sv : Value) (zs : List Int) (hreach : zs.length * 8 ≤ 140737488351232) (w : World) (hBs : Bs < w.heap.size) (hn₀ : n₀ ≤ w.heap.size)
    (hc : w.cell? ⟨Bs, 0, none⟩ = some sv) (hI : Ints n₀ w sv zs) :
    CallsIn Fence.wide n Try.prog 106 #[.slice none 0 0, .func (.func 103) #[] #[.pointer (some ⟨Bs, 0, none⟩)]] w fun e w' => ∃ v, e = .returned v ∧ w'.ownsRow w.heap.size 3 1 v zs.length (zs.map eI) ∧ Below w.heap.size w w' := by
  have h1 : 1 ≤ n := by omega
  obtain ⟨i0, hi, hz0, hz1, hz2⟩ := info_parts i3
  refine callsIn_of_wp_marks Try.func106 rfl trivial ?_ rfl
  simp only [Try.ntmps106, List.size_toArray, List.length_cons, List.length_nil, Nat.reduceAdd, Nat.reduceSub, Array.replicate_succ, Array.replicate_zero, List.push_toArray, List.append_toArray, List.nil_append, List.cons_append]
  gi_wp2
  have hB0 : Below w.heap.size w (w.alloc (.cells #[.slice none 0 0] 30)) := (Below.refl _ w).alloc (Nat.le_refl _) _
  have hv0 : (w.alloc (.cells #[.slice none 0 0] 30)).heap[w.heap.size]? = some (.cells #[.slice none 0 0] 30 (0, 0)) := World.alloc_heap_new w _
  obtain ⟨w1, hw1⟩ : ∃ w1, w1 = w.alloc (.cells #[.slice none 0 0] 30) := ⟨_, rfl⟩
  have hs1 : w1.heap.size = w.heap.size + 1 := by rw [hw1]; simp
  rw [← hw1] at hB0 hv0 ⊢
  refine wpIn_rangeFunc_ownF rfl h1 (gf := 103) (lb := #[.pointer (some ⟨Bs, 0, none⟩)]) rfl trivial (enters_of Try.func103 (by kernel_rfl) rfl)
    (values_stops Fence.wide (n - 1) trivial rfl (by omega) Bs n₀ _ zs hreach w1 (by omega) (by omega) ((hB0.cell (p := ⟨Bs, 0, none⟩) hBs).trans hc) (hI.below (hB0.mono hn₀))) belowK_t (belowK_b (by omega)) (Below.refl _ _) (fun _ => rfl)
    (ApI w w.heap.size)
    (fun _ _ _ => False)
    (apI_own w w.heap.size _ (by omega))
    (fun _ _ _ _ _ hs _ _ => hs)
    ⟨⟨_, hv0, World.ownsRow_nil _ _ _ _⟩, hB0⟩
    (fun x => { tmps := #[.slice none 0 0, .func (.func 103) #[] #[.pointer (some ⟨Bs, 0, none⟩)], .pointer (some ⟨w.heap.size, 0, none⟩), undef, .slice none 0 0, .int .i64 x, .func (.func 103) #[] #[.pointer (some ⟨Bs, 0, none⟩)], .int .i64 x, undef, undef, undef, undef, undef], defers := [] }) ?assign ?body ?done ?stop
  case assign =>
    intro l x W K hK
    gi_wp2
    exact hK
  case body =>
    rintro l pre x W ⟨⟨v, hv, hrow⟩, hB⟩ hlt
    obtain ⟨hc2, hf2⟩ := box_cell hv
    have hBlt : w.heap.size < W.heap.size := (Array.getElem?_eq_some_iff.1 hv).1
    have hne : some w.heap.size ≠ v.ownBlock := by
      rcases row_ne hrow hv (fun cur e => by cases e) with e | e
      · rw [e]; simp
      · exact fun e' => e e'.symm
    gi_wp2_with (gi_at_builtin; refine wpListIn_append_own _ rfl _ _ 30 rfl w.heap.size 3 i0 (.int .i64 0) 1 8 u30 hi hz0 hz1 hz2 rfl (by decide) _ _ _ rfl (hrow.alloc _) ⟨W.heap.size, 0, none⟩ 1 1 [eI x] rfl rfl (cell_one_new _ _ _) (by simp [Value.oneCell']) (by simp only [maxLen]; omega) (by omega) (by have := hB.size; simp; omega) ?_
                 intro v' w3 hown' hg3 hnil3
                 have hv3 : w3.heap[w.heap.size]? = some (.cells #[v] 30 (0, 0)) := (hg3.block w.heap.size (by simp; omega) hne).trans ((Below.heap_alloc _ _ _ hBlt).trans hv)
                 obtain ⟨hc3, hf3⟩ := box_cell hv3
                 obtain ⟨g', cap', cur', rfl, hbase', hgb', hr1, hr2, hr3, hr4⟩ := hown'.2.resolve_left (fun ⟨_, h0⟩ => by omega))
    have hg3' : (W.alloc (.cells #[eI x] 3)).grownBy w3 v.ownBlock := hg3
    obtain ⟨w4, hw4⟩ : ∃ w4, w3.setCell ⟨w.heap.size, 0, none⟩ (.slice (some ⟨g', 0, none⟩) (pre.length + 1) cap') = w4 := ⟨_, rfl⟩
    rw [hw4]
    have hg4 : w3.grownBy w4 (some w.heap.size) := by rw [← hw4]; exact box_grown _ _ _
    have hv4 : w4.heap[w.heap.size]? = some (.cells #[.slice (some ⟨g', 0, none⟩) (pre.length + 1) cap'] 30 (0, 0)) := by rw [← hw4]; exact box_set _ hv3
    have hrow4 := hown'.kept hg4 (row_ne hown' hv3 (fun cur e => by cases e))
    have hbB : ∀ n₁ : Nat, n₁ ≤ w.heap.size → Below n₁ W w4 := fun n₁ hn₁ => by
      refine Below.grown (Below.grown ((Below.refl _ W).alloc (by omega) _) hg3' (by simp; omega) (fun k e => ?_)) hg4 ?_ (fun k e => by cases e; omega)
      · have := (hrow.lt k e).1; omega
      · have := hg3'.size; simp at this; omega
    have hko : KeepsOthers W w4 := by
      refine ((KeepsOthers.alloc W _).trans (KeepsOthers.of_grownBy hg3' fun j o hj ho => ?_)).trans (by rw [← hw4]; exact KeepsOthers.setCell _ _ _)
      rcases hrow.2 with ⟨rfl, _⟩ | ⟨g, cap, cur, rfl, _, hgb, _⟩
      · cases hj
      · have : g = j := by simpa [Value.ownBlock] using hj
        subst this
        have hlt2 : g < W.heap.size := (Array.getElem?_eq_some_iff.1 hgb).1
        rw [(Below.heap_alloc _ _ _ hlt2), hgb] at ho; cases ho; rfl
    clear hw4
    refine ⟨hko, hbB _ hn₀, ⟨_, hv4, ?_⟩, hB.trans (hbB _ (Nat.le_refl _))⟩
    simpa using hrow4
  case done =>
    rintro D ys W hD rfl ⟨⟨v, hv, hrow⟩, hB⟩ hK
    obtain ⟨hc2, hf2⟩ := box_cell hv
    gi_wp2
    refine ⟨by simp, .inl ⟨_, _, rfl, run_takeDeferred hK, ?_⟩⟩
    exact ⟨_, results_tmp rfl _ _ _, v, rfl, hrow.kept (grownBy_putObj' _ _ _) (row_ne hrow hK (fun cur e => by cases e)), hB.trans (belowK_b (w := w) (Nat.le_refl _) W D _ _ (by omega) hK rfl rfl)⟩
  case stop =>
    rintro D c pre W _ _ h _
    exact h.elim
end Go.Proofs.Ytnkjbncagnfnoaa
/- slices.Sorted over slices.Values: a row of its own that holds the same numbers, sorted. Conditions: the row is within the reach. -/
set_option autoImplicit false
set_option linter.unusedVariables false
set_option linter.unusedSimpArgs false
namespace Go.Proofs.Ytnkjbncagnfnoaa
open Go.RowKit Go.Shelf Go.Sort Go.Maps
attribute [local go_sem] Oper.semAt_some

set_option maxRecDepth 100000 in
set_option maxHeartbeats 1000000 in
theorem collect_in (n : Nat) (hn : 4 ≤ n) (Bs n₀ : Nat) (sv : Value) (zs : List Int) (hreach : zs.length * 8 ≤ 140737488351232) (w : World) (hBs : Bs < w.heap.size) (hn₀ : n₀ ≤ w.heap.size)
    (hc : w.cell? ⟨Bs, 0, none⟩ = some sv) (hI : Ints n₀ w sv zs) :
    CallsIn Fence.wide n Try.prog 101 #[.func (.func 103) #[] #[.pointer (some ⟨Bs, 0, none⟩)]] w fun e w' => ∃ v, e = .returned v ∧ w'.ownsRow w.heap.size 3 1 v zs.length (zs.map eI) ∧ Below w.heap.size w w' := by
  have h1 : 1 ≤ n := by omega
  have hf106 : Fence.wide.fn 106 := trivial
  refine callsIn_of_wp Try.func101 rfl trivial ?_ rfl
  simp only [Try.ntmps101, List.size_toArray, List.length_cons, List.length_nil, Nat.reduceAdd, Nat.reduceSub, Array.replicate_succ, Array.replicate_zero, List.push_toArray, List.append_toArray, List.nil_append, List.cons_append]
  gi_wp2_with (gi_at_call 106; refine (appendSeq_in (n - 1) (by omega) Bs n₀ sv zs hreach _ hBs hn₀ hc hI).mono ?_; rintro e w' ⟨v, rfl, hrow, hb⟩)
  go_ret
  exact ⟨v, rfl, hrow, hb⟩

shelf_lay_g SlLaysM.n5 Slgm 5 at Try 102 as sortA

theorem sort_in (m : Nat) (blk off cap : Nat) (zs : List Int) (w : World) (hH : Holds (Value.int .i64) w blk off zs.toArray) (hblk : blk < w.heap.size) (hsz : zs.length < 4611686018427387904) :
    CallsIn Fence.wide m Try.prog 102 #[.slice (some ⟨blk, off, none⟩) zs.length cap] w fun e w' =>
      e = .returned (.tuple #[]) ∧ ∃ n os, w' = grow (putRow (Value.int .i64) (Sort.ahead w n) blk off (zs.mergeSort fun x y => decide (x ≤ y)).toArray) os :=
  callsIn_wide.2 (AnyM.slices_Sort_int sortA blk off cap zs w hH hblk hsz)

set_option maxRecDepth 100000 in
set_option maxHeartbeats 1000000 in
theorem sorted_in (n : Nat) (hn : 5 ≤ n) (Bs n₀ : Nat) (sv : Value) (zs : List Int) (hz : zs ≠ []) (hreach : zs.length * 8 ≤ 140737488351232) (w : World) (hBs : Bs < w.heap.size) (hn₀ : n₀ ≤ w.heap.size)
    (hc : w.cell? ⟨Bs, 0, none⟩ = some sv) (hI : Ints n₀ w sv zs) :
    CallsIn Fence.wide n Try.prog 92 #[.func (.func 103) #[] #[.pointer (some ⟨Bs, 0, none⟩)]] w fun e w' => ∃ v, e = .returned v ∧ w'.ownsRow w.heap.size 3 1 v zs.length ((zs.mergeSort fun x y => decide (x ≤ y)).map eI) ∧ Below w.heap.size w w' := by
  have h1 : 1 ≤ n := by omega
  have hf101 : Fence.wide.fn 101 := trivial
  have hf102 : Fence.wide.fn 102 := trivial
  refine callsIn_of_wp Try.func92 rfl trivial ?_ rfl
  simp only [Try.ntmps92, List.size_toArray, List.length_cons, List.length_nil, Nat.reduceAdd, Nat.reduceSub, Array.replicate_succ, Array.replicate_zero, List.push_toArray, List.append_toArray, List.nil_append, List.cons_append]
  gi_wp2_with (gi_at_call 101; refine (collect_in (n - 1) (by omega) Bs n₀ sv zs hreach _ hBs hn₀ hc hI).mono ?_; rintro e W ⟨v, rfl, hrow, hb⟩
               obtain ⟨gb, cap, cur, rfl, hbase, hgb, r1, r2, r3, r4⟩ := hrow.2.resolve_left (fun ⟨_, h0⟩ => hz (List.eq_nil_of_length_eq_zero h0)))
  have hH : Holds (Value.int .i64) W gb 0 zs.toArray := holds_of_block_i hgb (by simpa using r4)
  have hgl : gb < W.heap.size := (Array.getElem?_eq_some_iff.1 hgb).1
  gi_wp2_with (gi_at_call 102; refine (sort_in (n - 1) gb 0 cap zs W hH hgl (by omega)).mono ?_; rintro e w' ⟨rfl, nn, os, rfl⟩)
  go_ret
  exact ⟨_, rfl, ownsRow_sorted_i (by simp) hbase hgb r1 r2 r3, hb.grown (grownBy_sorted_i _) hb.size (fun j hj => by cases hj; exact hbase)⟩
end Go.Proofs.Ytnkjbncagnfnoaa
/- Whether a box fits into another one: each side, in order, is less. Conditions: none. -/
set_option autoImplicit false
set_option linter.unusedVariables false
set_option linter.unusedSimpArgs false
namespace Go.Proofs.Ytnkjbncagnfnoaa
open Go.RowKit Go.Shelf Go.Sort Go.Maps
attribute [local go_sem] Oper.semAt_some

set_option maxRecDepth 100000 in
set_option maxHeartbeats 1000000 in
theorem sides_in (n : Nat) (a b c : Int) (w : World) :
    CallsIn Fence.wide n Try.prog 90 #[.agg #[eI a, eI b, eI c]] w fun e w' => ∃ g, e = .returned (.slice (some ⟨g, 0, none⟩) 3 3) ∧ Ints w'.heap.size w' (.slice (some ⟨g, 0, none⟩) 3 3) [a, b, c] ∧ Below w.heap.size w w' := by
  refine callsIn_of_wp Try.func90 rfl trivial ?_ rfl
  simp only [Try.ntmps90, List.size_toArray, List.length_cons, List.length_nil, Nat.reduceAdd, Nat.reduceSub, Array.replicate_succ, Array.replicate_zero, List.push_toArray, List.append_toArray, List.nil_append, List.cons_append]
  gi_wp2
  go_ret
  refine ⟨w.heap.size + 1, rfl, .inr ⟨w.heap.size + 1, 0, 3, rfl, by simp, fun j hj => ?_⟩, ((Below.refl _ w).alloc (Nat.le_refl _) _).alloc (by simp) _⟩
  have hg := World.alloc_heap_new (w.alloc (Obj.cells #[eI a, eI b, eI c] 26)) (.cells #[eI a, eI b, eI c] 3)
  rw [World.size_alloc] at hg
  obtain ⟨W, hW⟩ : ∃ W, W = (w.alloc (Obj.cells #[eI a, eI b, eI c] 26)).alloc (.cells #[eI a, eI b, eI c] 3) := ⟨_, rfl⟩
  rw [← hW] at hg ⊢
  have hcell : ∀ k, W.cell? ⟨w.heap.size + 1, k, none⟩ = #[eI a, eI b, eI c][k]? := fun k => by simp only [World.cell?, hg]; simp
  match j, hj with
  | 0, _ => rw [hcell]; rfl
  | 1, _ => rw [hcell]; rfl
  | 2, _ => rw [hcell]; rfl

set_option maxRecDepth 100000 in
set_option maxHeartbeats 1000000 in
theorem values_in (n : Nat) (a : Option Addr) (len cap : Nat) (w : World) :
    CallsIn Fence.wide n Try.prog 93 #[.slice a len cap] w fun e w' => ∃ Bs, e = .returned (.func (.func 103) #[] #[.pointer (some ⟨Bs, 0, none⟩)]) ∧ Bs < w'.heap.size ∧ w'.cell? ⟨Bs, 0, none⟩ = some (.slice a len cap) ∧ Below w.heap.size w w' := by
  refine callsIn_of_wp Try.func93 rfl trivial ?_ rfl
  simp only [Try.ntmps93, List.size_toArray, List.length_cons, List.length_nil, Nat.reduceAdd, Nat.reduceSub, Array.replicate_succ, Array.replicate_zero, List.push_toArray, List.append_toArray, List.nil_append, List.cons_append]
  gi_wp2
  go_ret
  exact ⟨w.heap.size, rfl, by simp, (Boxed.new w 30 (.slice a len cap)).cell, (Below.refl _ w).alloc (Nat.le_refl _) _⟩

theorem row_below {W W' : World} {base : Nat} {e : TypeId} {size : Nat} {v : Value} {k : Nat} {xs : List Value} (h : W.ownsRow base e size v k xs) (hb : Below W.heap.size W W') : W'.ownsRow base e size v k xs := by
  refine ⟨h.1, ?_⟩
  rcases h.2 with hn | ⟨g, cap, cur, rfl, hg, hgg, rest⟩
  · exact .inl hn
  · exact .inr ⟨g, cap, cur, rfl, hg, (hb.block g (Array.getElem?_eq_some_iff.1 hgg).1).trans hgg, rest⟩
open Go.Den in
theorem less_in (n base1 base2 : Nat) (v1 v2 : Value) (zs ys : List Int) (w : World) (h1 : zs.length = 3) (h2 : ys.length = 3) (r1 : w.ownsRow base1 3 1 v1 3 (zs.map eI)) (r2 : w.ownsRow base2 3 1 v2 3 (ys.map eI)) :
    CallsIn Fence.wide n Try.prog 91 #[v1, v2] w fun e w' => e = .returned (.bool (lessL zs ys)) ∧ Below w.heap.size w w' := by
  have hc : Try.prog.cellsOf 3 = 1 := by kernel_rfl
  refine callsIn_wide.2 (lift_bool v91 rfl (args := [v1, v2]) (pvs := [.sl 3 (zs.map Den.I), .sl 3 (ys.map Den.I)]) rfl rfl (fun i p hp => ?_) ⟨_, _, zs, ys, rfl, ⟨.inl rfl, by omega⟩, ⟨.inl rfl, by omega⟩, by omega, rfl⟩)
  match i with
  | 0 => simp at hp; subst hp; exact .inl ⟨rfl, rowReads hc r1 h1 (by omega)⟩
  | 1 => simp at hp; subst hp; exact .inl ⟨rfl, rowReads hc r2 h2 (by omega)⟩
  | i + 2 => simp at hp

set_option maxRecDepth 100000 in
set_option maxHeartbeats 800000 in
theorem fits_in (n : Nat) (hn : 6 ≤ n) (x y : Den.B3) (w : World) :
    CallsIn Fence.wide n Try.prog 57 #[.agg #[eI x.a, eI x.b, eI x.c], .agg #[eI y.a, eI y.b, eI y.c]] w fun e w' => e = .returned (.bool (Den.fitB x y)) ∧ Below w.heap.size w w' := by
  have h1 : 1 ≤ n := by omega
  have mixed : Try.prog.follows .mixedOrders = true := by kernel_rfl
  have hf90 : Fence.wide.fn 90 := trivial
  have hf91 : Fence.wide.fn 91 := trivial
  have hf92 : Fence.wide.fn 92 := trivial
  have hf93 : Fence.wide.fn 93 := trivial
  refine callsIn_of_wp Try.func57 rfl trivial ?_ rfl
  simp only [Try.ntmps57, List.size_toArray, List.length_cons, List.length_nil, Nat.reduceAdd, Nat.reduceSub, Array.replicate_succ, Array.replicate_zero, List.push_toArray, List.append_toArray, List.nil_append, List.cons_append]
  gi_wp2
  obtain ⟨w0, hw0⟩ : ∃ w0, w0 = (w.alloc (.cells #[eI x.a, eI x.b, eI x.c] 26)).alloc (.cells #[eI y.a, eI y.b, eI y.c] 26) := ⟨_, rfl⟩
  have hbb : Below w.heap.size w w0 := by rw [hw0]; exact ((Below.refl _ w).alloc (Nat.le_refl _) _).alloc (by simp) _
  have hsz : w.heap.size + 2 ≤ w0.heap.size := by rw [hw0]; simp
  have hxb : w0.heap[w.heap.size]? = some (.cells #[eI x.a, eI x.b, eI x.c] 26 (0, 0)) := by
    rw [hw0]; exact (Below.heap_alloc _ _ _ (by simp)).trans (World.alloc_heap_new w _)
  have hyb : w0.heap[w.heap.size + 1]? = some (.cells #[eI y.a, eI y.b, eI y.c] 26 (0, 0)) := by
    rw [hw0]; have := World.alloc_heap_new (w.alloc (.cells #[eI x.a, eI x.b, eI x.c] 26)) (.cells #[eI y.a, eI y.b, eI y.c] 26); rwa [World.size_alloc] at this
  have hx : ∀ k, w0.cell? ⟨w.heap.size, k, none⟩ = #[eI x.a, eI x.b, eI x.c][k]? := fun k => by simp only [World.cell?, hxb]; simp
  have hy : ∀ k, w0.cell? ⟨w.heap.size + 1, k, none⟩ = #[eI y.a, eI y.b, eI y.c][k]? := fun k => by simp only [World.cell?, hyb]; simp
  have hx0 : w0.cell? ⟨w.heap.size, 0, none⟩ = some (eI x.a) := hx 0
  have hx1 : w0.cell? ⟨w.heap.size, 1, none⟩ = some (eI x.b) := hx 1
  have hx2 : w0.cell? ⟨w.heap.size, 2, none⟩ = some (eI x.c) := hx 2
  have hy0 : w0.cell? ⟨w.heap.size + 1, 0, none⟩ = some (eI y.a) := hy 0
  have hy1 : w0.cell? ⟨w.heap.size + 1, 1, none⟩ = some (eI y.b) := hy 1
  have hy2 : w0.cell? ⟨w.heap.size + 1, 2, none⟩ = some (eI y.c) := hy 2
  rw [← hw0]
  clear hx hy hxb hyb hw0
  have hbb : Below w.heap.size w w0.drew := hbb.drew
  have p0 : True := trivial
  have q0 : True := trivial
  gi_region_with_o (first
    | (gi_at_call 90; clear p0; refine (sides_in _ x.a x.b x.c _).mono ?_; rintro e W ⟨g, rfl, hI, hb⟩
       have hy0 := (hb.cell (p := ⟨w.heap.size + 1, 0, none⟩) (Nat.lt_of_lt_of_le (Nat.lt_succ_self _) hsz)).trans hy0
       have hy1 := (hb.cell (p := ⟨w.heap.size + 1, 1, none⟩) (Nat.lt_of_lt_of_le (Nat.lt_succ_self _) hsz)).trans hy1
       have hy2 := (hb.cell (p := ⟨w.heap.size + 1, 2, none⟩) (Nat.lt_of_lt_of_le (Nat.lt_succ_self _) hsz)).trans hy2
       have hbb := hbb.trans (hb.mono (Nat.le_trans (Nat.le_add_right _ 2) hsz))
       have hsz := Nat.le_trans hsz hb.size)
    | (gi_at_call 90; refine (sides_in _ y.a y.b y.c _).mono ?_; rintro e W ⟨g, rfl, hI, hb⟩
       have r1 := row_below r1 hb
       have hbb := hbb.trans (hb.mono (Nat.le_trans (Nat.le_add_right _ 2) hsz))
       have hsz := Nat.le_trans hsz hb.size)
    | (gi_at_call 93; refine (values_in _ _ _ _ _).mono ?_; rintro e W ⟨Bs, rfl, hB1, hB3, hb⟩
       have hI := hI.below hb
       have hn0 := hb.size
       try (have hy0 := (hb.cell (p := ⟨w.heap.size + 1, 0, none⟩) (Nat.lt_of_lt_of_le (Nat.lt_succ_self _) hsz)).trans hy0)
       try (have hy1 := (hb.cell (p := ⟨w.heap.size + 1, 1, none⟩) (Nat.lt_of_lt_of_le (Nat.lt_succ_self _) hsz)).trans hy1)
       try (have hy2 := (hb.cell (p := ⟨w.heap.size + 1, 2, none⟩) (Nat.lt_of_lt_of_le (Nat.lt_succ_self _) hsz)).trans hy2)
       try (have r1 := row_below r1 hb)
       have hbb := hbb.trans (hb.mono (Nat.le_trans (Nat.le_add_right _ 2) hsz))
       have hsz := Nat.le_trans hsz hb.size)
    | (gi_at_call 92; clear q0; refine (sorted_in _ (by omega) Bs _ _ [x.a, x.b, x.c] (by simp) (by simp) _ hB1 hn0 hB3 hI).mono ?_; rintro e W ⟨v1, rfl, r1, hb⟩
       have hy0 := (hb.cell (p := ⟨w.heap.size + 1, 0, none⟩) (Nat.lt_of_lt_of_le (Nat.lt_succ_self _) hsz)).trans hy0
       have hy1 := (hb.cell (p := ⟨w.heap.size + 1, 1, none⟩) (Nat.lt_of_lt_of_le (Nat.lt_succ_self _) hsz)).trans hy1
       have hy2 := (hb.cell (p := ⟨w.heap.size + 1, 2, none⟩) (Nat.lt_of_lt_of_le (Nat.lt_succ_self _) hsz)).trans hy2
       have hbb := hbb.trans (hb.mono (Nat.le_trans (Nat.le_add_right _ 2) hsz))
       have hsz := Nat.le_trans hsz hb.size)
    | (gi_at_call 92; refine (sorted_in _ (by omega) Bs _ _ [y.a, y.b, y.c] (by simp) (by simp) _ hB1 hn0 hB3 hI).mono ?_; rintro e W ⟨v2, rfl, r2, hb⟩
       have r1 := row_below r1 hb
       have hbb := hbb.trans (hb.mono (Nat.le_trans (Nat.le_add_right _ 2) hsz))
       have hsz := Nat.le_trans hsz hb.size)
    | (gi_at_call 91; refine (less_in _ _ _ _ _ (Den.sortB x) (Den.sortB y) _ Den.sortB_len Den.sortB_len r1 r2).mono ?_; rintro e W ⟨rfl, hb⟩
       have hbb := hbb.trans (hb.mono (Nat.le_trans (Nat.le_add_right _ 2) hsz)))
    | gi_in)
  all_goals
    gi_wp2
    go_ret
    exact ⟨rfl, hbb⟩
end Go.Proofs.Ytnkjbncagnfnoaa
/- impl.fits, for the reckoner. Conditions: none. -/
set_option autoImplicit false
set_option linter.unusedVariables false
set_option linter.unusedSimpArgs false
namespace Go.Proofs.Ytnkjbncagnfnoaa
open Go.Den
theorem boxArg {P : Program} {w : World} {m : M} {fp : Nat → Prop} {x : B3} {c : Value} (h : R P w m fp (pB x) c) : c = .agg #[eI x.a, eI x.b, eI x.c] := by
  obtain ⟨cs, lab, rfl, hl, hi⟩ := R.agg_inv h
  have hl3 : cs.size = 3 := hl
  have h0 := R.int_inv (hi 0 (by simp))
  have h1 := R.int_inv (hi 1 (by simp))
  have h2 := R.int_inv (hi 2 (by simp))
  simp only [Array.getD_eq_getD_getElem?] at h0 h1 h2
  rw [Array.getElem?_eq_getElem (by omega)] at h0 h1 h2
  congr 1
  apply Array.ext
  · rw [hl3]; rfl
  · intro i hi1 hi2
    have : i = 0 ∨ i = 1 ∨ i = 2 := by omega
    rcases this with rfl | rfl | rfl
    · simpa using h0
    · simpa using h1
    · simpa using h2
def R57 : Rel := fun _ vs _ rs _ => ∃ x y, vs = [pB x, pB y] ∧ rs = [.bool (fitB x y)]
theorem v57 : SpecR Try.prog 57 sg57 R57 := by
  refine specBool (fn := Try.f57) (by kernel_rfl) (by kernel_rfl) (by kernel_rfl) rfl rfl rfl ?_
  rintro X s hX hs - rs H' ⟨x, y, hv, rfl⟩
  refine ⟨_, rfl, ?_⟩
  have hsz : s.a.tmps.size = 2 := by rw [hs.lenA, hv]; rfl
  have v0 : s.v 0 = pB x := by simp [S.v, hv]
  have v1 : s.v 1 = pB y := by simp [S.v, hv]
  have c0 : s.c 0 = .agg #[eI x.a, eI x.b, eI x.c] := by
    rcases hs.slot 0 .fl rfl with h | h
    · rw [v0] at h; cases h
    · rw [v0] at h; exact boxArg h
  have c1 : s.c 1 = .agg #[eI y.a, eI y.b, eI y.c] := by
    rcases hs.slot 1 .fl rfl with h | h
    · rw [v1] at h; cases h
    · rw [v1] at h; exact boxArg h
  have ht : s.a.tmps = #[.agg #[eI x.a, eI x.b, eI x.c], .agg #[eI y.a, eI y.b, eI y.c]] := by
    simp only [S.c, Array.getD_eq_getD_getElem?] at c0 c1
    rw [Array.getElem?_eq_getElem (by omega)] at c0 c1
    apply Array.ext
    · rw [hsz]; rfl
    · intro i hi1 hi2
      have : i = 0 ∨ i = 1 := by omega
      rcases this with rfl | rfl
      · simpa using c0
      · simpa using c1
  rw [ht]
  exact (callsIn_wide (n := 6)).1 (fits_in 6 (by omega) x y s.w)
end Go.Proofs.Ytnkjbncagnfnoaa
