/-
  The iterator that probe.All hands back, as a contract: it goes over the probe sequence, or over nothing with an error, until a round says that it is enough. Then probe.All itself.
-/
import Derived.Test.YtkigfmfofnhknaaC
import Derived.RangeFuncNested
import Derived.RangeFuncBox
import Derived.RangeFuncBound
import Derived.RangeFuncCalls
import Derived.RangeFuncLeaves
import Derived.Shelf.Abstract
import Derived.Shelf.RegionOpen
import Derived.OwnWalkIn
import Derived.TacticsInMore
import Derived.LoopNIn
import Derived.LoopIn
import Derived.Deep.RegionHeld3
namespace Go.Proofs.Ytkigfmfofnhknaa
open Go.ChangeShapes Go.WideShapes Go.ChangeAt Go.RowKit Go.Shelf
set_option linter.unusedVariables false
attribute [local go_sem] Oper.semAt_some

theorem upto_prefix (p g : Int) (k m : Nat) (h : k ≤ m) : upto p g k <+: upto p g m := by
  obtain ⟨d, rfl⟩ : ∃ d, m = k + d := ⟨m - k, by omega⟩
  clear h
  induction d with
  | zero => exact List.prefix_rfl
  | succ d ih => rw [← Nat.add_assoc, upto_succ]; exact ih.trans (List.prefix_append _ _)

set_option maxRecDepth 100000 in
set_option maxHeartbeats 1000000 in
theorem iter_in (n : Nat) (hn : 1 ≤ n) (l Bm Bp Bg n₀ : Nat) (p g : Int) (p0 : 0 ≤ p) (p1 : p < 18446744073709551616) (m : Nat) (hm : m = 0 ∨ (validB g = true ∧ (m : Int) ≤ g)) (J Jx : List Int → World → Prop)
    (hY : ∀ pre x W, J pre W → pre.length < (upto p g m).length → YieldAt Fence.wide (n - 1) Try.prog l #[.int .i64 x] W fun e W' =>
      (e = .returned (.bool true) ∧ J (pre ++ [x]) W' ∧ Below n₀ W W') ∨ (e = .returned (.bool false) ∧ Jx (pre ++ [x]) W'))
    (W : World) (hB1 : Bm < n₀) (hB2 : Bp < n₀) (hB3 : Bg < n₀) (hc1 : W.cell? ⟨Bm, 0, none⟩ = some (.int .i64 m)) (hc2 : W.cell? ⟨Bp, 0, none⟩ = some (.int .u64 p)) (hc3 : W.cell? ⟨Bg, 0, none⟩ = some (.int .i64 g)) (h0 : J [] W) :
    CallsIn Fence.wide n Try.prog 22 #[.func (.yield l) #[] #[], .pointer (some ⟨Bm, 0, none⟩), .pointer (some ⟨Bp, 0, none⟩), .pointer (some ⟨Bg, 0, none⟩)] W fun e W' => (∃ v, e = .returned v) ∧
      ((∃ ys, ys = upto p g m ∧ J ys W') ∨ (∃ pre, pre <+: upto p g m ∧ Jx pre W')) := by
  have hm1 : (m : Int) ≤ 1048576 := by
    rcases hm with h | ⟨hv, h⟩
    · omega
    · have := valid_bounds hv; omega
  refine callsIn_of_wp Try.func22 rfl trivial ?_ rfl
  simp only [Try.ntmps22, List.size_toArray, List.length_cons, List.length_nil, Nat.reduceAdd, Nat.reduceSub, Array.replicate_succ, Array.replicate_zero, List.push_toArray, List.append_toArray, List.nil_append, List.cons_append]
  gi_wp2
  gi_loopw [7] (fun i wr => ∃ k : Nat, k ≤ m ∧ i = .int .i64 k ∧ J (upto p g k) wr ∧ Below n₀ W wr) (fun i _ => m - (intOf i).toNat)
  case atStart => exact ⟨0, Nat.zero_le _, rfl, h0, Below.refl _ _⟩
  case round =>
    obtain ⟨k, hk, rfl, hJ, hbel⟩ := hrel
    by_cases hlt : k < m
    · obtain ⟨hv, hmg⟩ : validB g = true ∧ (m : Int) ≤ g := by
        rcases hm with h | h
        · omega
        · exact h
      obtain ⟨e, he, hg⟩ := (validB_iff g).1 hv
      have d2 : wr.cell? ⟨Bp, 0, none⟩ = some (.int .u64 p) := (hbel.cell (p := ⟨Bp, 0, none⟩) hB2).trans hc2
      have d3 : wr.cell? ⟨Bg, 0, none⟩ = some (.int .i64 g) := (hbel.cell (p := ⟨Bg, 0, none⟩) hB3).trans hc3
      obtain ⟨fn, tmps, assign, body, hy, hR⟩ := hY (upto p g k) (pat p g k) wr hJ (by rw [upto_length, upto_length]; exact hlt)
      have HG := Lib.hid hg
      have HM := Lib.hid hm
      clear hg hm hv
      gi_wp2_with (refine ⟨trivial, ?_⟩; gi_at_call 23; refine (callsIn_wide.2 (at_any p p0 p1 e he g HG.out k (by omega) _)).mono ?_; rintro e w' ⟨rfl, rfl⟩)
      refine hR.mono ?_
      rintro e W3 (⟨rfl, hJ3, hk3⟩ | ⟨rfl, hJx3⟩)
      · gi_wp2
        go_roundw
        case rel => exact ⟨k + 1, by omega, by go_num, by rw [upto_succ]; exact hJ3, hbel.trans hk3⟩
        case measure => simp [intOf]; omega
      · gi_wp2
        refine bodyPost_ret (results_none rfl _ _ _) rfl ?_
        exact ⟨⟨_, rfl⟩, .inr ⟨_, by rw [← upto_succ]; exact upto_prefix p g (k + 1) m (by omega), hJx3⟩⟩
    · gi_wp2
      go_end0
      exact ⟨⟨_, rfl⟩, .inl ⟨_, by rw [show k = m from by omega], hJ⟩⟩
/-- How many elements the iterator has. -/
def manyOf (g : Int) : Nat := if validB g then g.toNat else 0
theorem manyOf_ok (g : Int) : manyOf g = 0 ∨ (validB g = true ∧ (manyOf g : Int) ≤ g) := by
  unfold manyOf
  by_cases h : validB g = true
  · have := valid_bounds h
    rw [if_pos h]; right; exact ⟨h, by omega⟩
  · rw [if_neg h]; left; rfl
theorem seqOf_many (p g : Int) : upto p g (manyOf g) = seqOf p g := by
  unfold manyOf seqOf
  by_cases h : validB g = true
  · rw [if_pos h, if_pos h]
  · rw [if_neg h, if_neg h]; rfl
theorem errOf_0 {g : Int} (h : validB g = true) : errOf g 0 = 0 := by
  have := valid_bounds h
  unfold errOf; rw [if_pos h, if_neg (by omega)]
theorem errOf_bad {g n : Int} (h : ¬ validB g = true) : errOf g n = 2 := by unfold errOf; rw [if_neg h]

/-- What probe.All leaves: an iterator over the sequence, in three boxes. -/
structure AllLeft (p g : Int) (w : World) (e : Ending) (w' : World) : Prop where
  res : e = .returned (.tuple #[.func (.func 22) #[] #[.pointer (some ⟨w.heap.size + 1 + 1, 0, none⟩), .pointer (some ⟨w.heap.size, 0, none⟩), .pointer (some ⟨w.heap.size + 1, 0, none⟩)], .int .i64 (errOf g 0)])
  bel : Below w.heap.size w w'
  size : w'.heap.size = w.heap.size + 3
  many : w'.cell? ⟨w.heap.size + 1 + 1, 0, none⟩ = some (.int .i64 (manyOf g))
  part : w'.cell? ⟨w.heap.size, 0, none⟩ = some (.int .u64 p)
  groups : w'.cell? ⟨w.heap.size + 1, 0, none⟩ = some (.int .i64 g)

set_option maxHeartbeats 1000000 in
theorem All_any (p g : Int) (b0 : -9223372036854775808 ≤ g) (b1 : g ≤ 9223372036854775807) (w : World) :
    Calls Try.prog 17 #[.int .u64 p, .int .i64 g] w (AllLeft p g w) := by
  by_cases hv : validB g = true
  · have he : (errOf g 0 != 0) = false := by rw [errOf_0 hv]; rfl
    have hg := valid_bounds hv
    have hmany := Lib.hid (show ((manyOf g : Nat) : Int) = g from by unfold manyOf; rw [if_pos hv]; omega)
    clear hv
    go_enter Try.func17, Try.ntmps17
    go_wp2
    go_region_held3 (fun w' => w'.cell? ⟨w.heap.size + 1, 0, none⟩ = some (.int .i64 g)) (go_keep)
      (first
        | (go_at_call 21; ((with_reducible refine (check_any g 0 b0 b1 _).mono ?_); rintro e w' ⟨rfl, rfl⟩)))
    all_goals go_wp2
    all_goals
      go_ret2
      refine ⟨rfl, ?_, ?_, ?_, ?_, ?_⟩
      · repeat (first | exact Below.refl _ _ | refine Below.alloc ?_ (by first | omega | (simp <;> omega)) _ | refine Below.drew ?_)
      · simp
      · rw [hmany.out]; simp [go_sem]
      · simp [go_sem, World.cell?_alloc_past]
      · simp [go_sem, World.cell?_alloc_past]
  · have he : (errOf g 0 != 0) = true := by rw [errOf_bad hv]; rfl
    have hmany := Lib.hid (show ((manyOf g : Nat) : Int) = 0 from by unfold manyOf; rw [if_neg hv]; rfl)
    clear hv
    go_enter Try.func17, Try.ntmps17
    go_wp2
    go_region_held3 (fun w' => w'.cell? ⟨w.heap.size + 1, 0, none⟩ = some (.int .i64 g)) (go_keep)
      (first
        | (go_at_call 21; ((with_reducible refine (check_any g 0 b0 b1 _).mono ?_); rintro e w' ⟨rfl, rfl⟩)))
    all_goals go_wp2
    all_goals
      go_ret2
      refine ⟨rfl, ?_, ?_, ?_, ?_, ?_⟩
      · repeat (first | exact Below.refl _ _ | refine Below.alloc ?_ (by first | omega | (simp <;> omega)) _ | refine Below.drew ?_)
      · simp
      · rw [hmany.out]; simp [go_sem]
      · simp [go_sem, World.cell?_alloc_past]
      · simp [go_sem, World.cell?_alloc_past]
theorem iter_stops (n : Nat) (hn : 1 ≤ n) (Bm Bp Bg n₀ : Nat) (p g : Int) (p0 : 0 ≤ p) (p1 : p < 18446744073709551616) (w : World) (hB1 : Bm < n₀) (hB2 : Bp < n₀) (hB3 : Bg < n₀) (hn₀ : n₀ ≤ w.heap.size)
    (hc1 : w.cell? ⟨Bm, 0, none⟩ = some (.int .i64 (manyOf g))) (hc2 : w.cell? ⟨Bp, 0, none⟩ = some (.int .u64 p)) (hc3 : w.cell? ⟨Bg, 0, none⟩ = some (.int .i64 g)) :
    SeqStopsK Fence.wide n Try.prog 22 #[.pointer (some ⟨Bm, 0, none⟩), .pointer (some ⟨Bp, 0, none⟩), .pointer (some ⟨Bg, 0, none⟩)] (fun x : Int => #[Value.int .i64 x]) (Below n₀) (fun ys => ys = upto p g (manyOf g)) (fun pre => pre <+: upto p g (manyOf g)) (upto p g (manyOf g)).length w :=
  fun l J Jx W hW _ _ hY h0 => iter_in n hn l Bm Bp Bg n₀ p g p0 p1 (manyOf g) (manyOf_ok g) J Jx hY W hB1 hB2 hB3
    ((hW.cell (p := ⟨Bm, 0, none⟩) (by show Bm < _; omega)).trans hc1) ((hW.cell (p := ⟨Bp, 0, none⟩) (by show Bp < _; omega)).trans hc2) ((hW.cell (p := ⟨Bg, 0, none⟩) (by show Bg < _; omega)).trans hc3) h0
end Go.Proofs.Ytkigfmfofnhknaa
