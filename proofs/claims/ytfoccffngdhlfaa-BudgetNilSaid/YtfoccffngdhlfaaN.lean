/-
  The walk of BudgetNil: the results for nil and zero budgets.
-/
import Derived.Test.YtfoccffngdhlfaaG
namespace Go.Proofs.Ytfoccffngdhlfaa
open Go.ChangeShapes Go.WideShapes Go.ChangeAt Go.RowKit
set_option linter.unusedVariables false

/-- A nil or a zero budget. -/
def Nil (w : World) (v : Value) : Prop := v = .pointer none ∨ ∃ q K, v = .pointer (some ⟨q, 0, none⟩) ∧ At w q K ∧ eq2 K.mc K.mb 0 0 = true
theorem none_v (v : Value) (w : World) (h : Nil w v) : Calls Try.prog 30 #[v] w fun e w' => e = .returned (.bool true) ∧ w = w' := by
  rcases h with rfl | ⟨q, K, rfl, hA, hz⟩
  · exact none_nil w
  · refine (none_any q K w hA).mono ?_
    rw [hz]
    exact fun e w' h => h
theorem check_v (v : Value) (g c : Int) (w : World) (h : Nil w v) : Calls Try.prog 31 #[v, .int .i64 g, .int .i64 c] w fun e w' => e = .returned (.int .i64 1) ∧ w = w' := by
  rcases h with rfl | ⟨q, K, rfl, hA, hz⟩
  · exact check_nil g c w
  · exact check_zero q K g c w hA hz
theorem limits_v (v : Value) (w : World) (h : Nil w v) : Calls Try.prog 25 #[v] w fun e w' => e = .returned (.tuple #[.int .i64 0, .int .i64 0]) ∧ w = w' := by
  go_enter Try.func25, Try.ntmps25
  go_wp2_with (first | (go_at_call 30; refine (none_v v _ h).mono ?_; rintro e w' ⟨rfl, rfl⟩))
  go_ret2
  exact ⟨rfl, rfl⟩
theorem part_v (v : Value) (x : Int) (w : World) (h : Nil w v) : Calls Try.prog 12 #[v, .int .i64 x] w fun e w' => e = .returned (.tuple #[.int .i64 0, .int .i64 1]) ∧ w = w' := by
  go_enter Try.func12, Try.ntmps12
  go_wp2_with (first | (go_at_call 30; refine (none_v v _ h).mono ?_; rintro e w' ⟨rfl, rfl⟩))
  go_ret2
  exact ⟨rfl, rfl⟩
theorem total_v (v : Value) (w : World) (h : Nil w v) : Calls Try.prog 17 #[v] w fun e w' => e = .returned (.tuple #[.int .i64 0, .int .i64 0]) ∧ w = w' := by
  go_enter Try.func17, Try.ntmps17
  go_wp2_with (first | (go_at_call 30; refine (none_v v _ h).mono ?_; rintro e w' ⟨rfl, rfl⟩))
  go_ret2
  exact ⟨rfl, rfl⟩
theorem over_v (v : Value) (w : World) (h : Nil w v) : Calls Try.prog 36 #[v] w fun e w' => e = .returned (.tuple #[.int .i64 0, .int .i64 0]) ∧ w = w' := by
  go_enter Try.func36, Try.ntmps36
  go_wp2_with (first | (go_at_call 30; refine (none_v v _ h).mono ?_; rintro e w' ⟨rfl, rfl⟩))
  go_ret2
  exact ⟨rfl, rfl⟩
theorem used_v (v : Value) (g : Int) (w : World) (h : Nil w v) : Calls Try.prog 21 #[v, .int .i64 g] w fun e w' => e = .returned (.tuple #[.int .i64 0, .int .i64 0]) ∧ w = w' := by
  go_enter Try.func21, Try.ntmps21
  go_wp2_with (first | (go_at_call 31; refine (check_v v g 0 _ h).mono ?_; rintro e w' ⟨rfl, rfl⟩))
  go_ret2
  exact ⟨rfl, rfl⟩
theorem add_v (v : Value) (g c : Int) (w : World) (h : Nil w v) : Calls Try.prog 13 #[v, .int .i64 g, .int .i64 c] w fun e w' => e = .returned (.int .i64 1) ∧ w = w' := by
  go_enter Try.func13, Try.ntmps13
  go_wp2_with (first | (go_at_call 31; refine (check_v v g c _ h).mono ?_; rintro e w' ⟨rfl, rfl⟩))
  go_ret
  exact ⟨rfl, rfl⟩
theorem remove_v (v : Value) (g c : Int) (w : World) (h : Nil w v) : Calls Try.prog 18 #[v, .int .i64 g, .int .i64 c] w fun e w' => e = .returned (.int .i64 1) ∧ w = w' := by
  go_enter Try.func18, Try.ntmps18
  go_wp2_with (first | (go_at_call 31; refine (check_v v g c _ h).mono ?_; rintro e w' ⟨rfl, rfl⟩))
  go_ret
  exact ⟨rfl, rfl⟩
theorem move_v (v : Value) (g c : Int) (w : World) (h : Nil w v) : Calls Try.prog 14 #[v, .int .i64 g, .int .i64 c] w fun e w' => e = .returned (.int .i64 1) ∧ w = w' := by
  go_enter Try.func14, Try.ntmps14
  go_wp2_with (first | (go_at_call 31; refine (check_v v g c _ h).mono ?_; rintro e w' ⟨rfl, rfl⟩))
  go_ret
  exact ⟨rfl, rfl⟩
theorem change_v (v : Value) (g a b : Int) (w : World) (h : Nil w v) : Calls Try.prog 15 #[v, .int .i64 g, .int .i64 a, .int .i64 b] w fun e w' => e = .returned (.int .i64 1) ∧ w = w' := by
  go_enter Try.func15, Try.ntmps15
  go_wp2_with (first | (go_at_call 31; refine (check_v v g _ _ h).mono ?_; rintro e w' ⟨rfl, rfl⟩))
  go_ret
  exact ⟨rfl, rfl⟩
theorem set_v (v : Value) (c b : Int) (w : World) (h : Nil w v) : Calls Try.prog 20 #[v, .int .i64 c, .int .i64 b] w fun e w' => e = .returned (.int .i64 1) ∧ w = w' := by
  go_enter Try.func20, Try.ntmps20
  go_wp2_with (first | (go_at_call 30; refine (none_v v _ h).mono ?_; rintro e w' ⟨rfl, rfl⟩))
  go_ret
  exact ⟨rfl, rfl⟩
theorem copy_v (v : Value) (w : World) (h : Nil w v) : Calls Try.prog 28 #[v] w fun e w' => e = .returned (.pointer none) ∧ w = w' := by
  go_enter Try.func28, Try.ntmps28
  go_wp2_with (first | (go_at_call 30; refine (none_v v _ h).mono ?_; rintro e w' ⟨rfl, rfl⟩))
  go_ret
  exact ⟨rfl, rfl⟩
theorem pair_zero (w : World) : Calls Try.prog 26 #[.int .i64 0, .int .i64 0, .int .i64 0, .int .i64 0] w fun e w' => e = .returned (.bool true) ∧ w = w' := pair_any 0 0 0 0 w
theorem lawTotal_v (v : Value) (w : World) (h : Nil w v) : Calls Try.prog 19 #[v, .int .i64 0, .int .i64 0] w fun e w' => e = .returned (.bool true) ∧ w = w' := by
  go_enter Try.func19, Try.ntmps19
  go_wp2_with (first | (go_at_call 17; refine (total_v v _ h).mono ?_; rintro e w' ⟨rfl, rfl⟩) | (go_at_call 26; refine (pair_zero _).mono ?_; rintro e w' ⟨rfl, rfl⟩))
  go_ret
  exact ⟨rfl, rfl⟩
theorem lawOver_v (v : Value) (w : World) (h : Nil w v) : Calls Try.prog 27 #[v, .int .i64 0, .int .i64 0] w fun e w' => e = .returned (.bool true) ∧ w = w' := by
  go_enter Try.func27, Try.ntmps27
  go_wp2_with (first | (go_at_call 36; refine (over_v v _ h).mono ?_; rintro e w' ⟨rfl, rfl⟩) | (go_at_call 26; refine (pair_zero _).mono ?_; rintro e w' ⟨rfl, rfl⟩))
  go_ret
  exact ⟨rfl, rfl⟩
theorem lawUsed_v (v : Value) (g : Int) (w : World) (h : Nil w v) : Calls Try.prog 22 #[v, .int .i64 g, .int .i64 0, .int .i64 0] w fun e w' => e = .returned (.bool true) ∧ w = w' := by
  go_enter Try.func22, Try.ntmps22
  go_wp2_with (first | (go_at_call 21; refine (used_v v g _ h).mono ?_; rintro e w' ⟨rfl, rfl⟩) | (go_at_call 26; refine (pair_zero _).mono ?_; rintro e w' ⟨rfl, rfl⟩))
  go_ret
  exact ⟨rfl, rfl⟩

set_option maxHeartbeats 1600000 in
theorem budgetNil_walk (a0 a1 : Int) (w0 : (Lit.int .i64 a0).wf = true) (w1 : (Lit.int .i64 a1).wf = true) (w : World) :
    Calls Try.prog 8 #[.int .i64 a0, .int .i64 a1] w fun e w' => e = .returned (.bool true) ∧ Below w.heap.size w w' := by
  clear w0 w1
  have n0 : Nil ((w.alloc (.cells #[.int .i64 0, .int .i64 0, .int .i64 0, .int .i64 0, .int .i64 0, .int .i64 0] 56)).alloc (.cells #[.pointer none, .pointer (some ⟨w.heap.size, 0, none⟩)] 24)) (.pointer none) := .inl rfl
  have hz0 : At (w.alloc (.cells (newB 0 0).cells 56)) w.heap.size (newB 0 0) := At.new
  have n1 : Nil ((w.alloc (.cells #[.int .i64 0, .int .i64 0, .int .i64 0, .int .i64 0, .int .i64 0, .int .i64 0] 56)).alloc (.cells #[.pointer none, .pointer (some ⟨w.heap.size, 0, none⟩)] 24)) (.pointer (some ⟨w.heap.size, 0, none⟩)) := .inr ⟨w.heap.size, newB 0 0, rfl, heap_alloc (o := .cells (newB 0 0).cells 56 (0, 0)) hz0 _, rfl⟩
  have b0 : Below w.heap.size w ((w.alloc (.cells #[.int .i64 0, .int .i64 0, .int .i64 0, .int .i64 0, .int .i64 0, .int .i64 0] 56)).alloc (.cells #[.pointer none, .pointer (some ⟨w.heap.size, 0, none⟩)] 24)) := by (repeat (first | exact Below.refl _ _ | (refine Below.alloc ?_ (by first | omega | (simp <;> omega)) _)))
  go_enter Try.func8, Try.ntmps8
  go_wp2_with fail
  refine wp_loop_rounds 3 ?_
  rw [rounds_succ]
  go_wp2_with (first | (go_at_call 25; with_reducible refine (limits_v _ _ n0).mono ?_; rintro e w' ⟨rfl, rfl⟩) | (go_at_call 12; with_reducible refine (part_v _ a1 _ n0).mono ?_; rintro e w' ⟨rfl, rfl⟩) | (go_at_call 13; with_reducible refine (add_v _ a0 a1 _ n0).mono ?_; rintro e w' ⟨rfl, rfl⟩) | (go_at_call 18; with_reducible refine (remove_v _ a0 a1 _ n0).mono ?_; rintro e w' ⟨rfl, rfl⟩) | (go_at_call 14; with_reducible refine (move_v _ a0 a1 _ n0).mono ?_; rintro e w' ⟨rfl, rfl⟩) | (go_at_call 15; with_reducible refine (change_v _ a0 a1 a1 _ n0).mono ?_; rintro e w' ⟨rfl, rfl⟩) | (go_at_call 20; with_reducible refine (set_v _ a1 a1 _ n0).mono ?_; rintro e w' ⟨rfl, rfl⟩) | (go_at_call 26; with_reducible refine (pair_zero _).mono ?_; rintro e w' ⟨rfl, rfl⟩) | (go_at_call 22; with_reducible refine (lawUsed_v _ a0 _ n0).mono ?_; rintro e w' ⟨rfl, rfl⟩) | (go_at_call 19; with_reducible refine (lawTotal_v _ _ n0).mono ?_; rintro e w' ⟨rfl, rfl⟩) | (go_at_call 27; with_reducible refine (lawOver_v _ _ n0).mono ?_; rintro e w' ⟨rfl, rfl⟩) | (go_at_call 28; with_reducible refine (copy_v _ _ n0).mono ?_; rintro e w' ⟨rfl, rfl⟩))
  rw [rounds_succ]
  clear n0 hz0
  go_wp2_with (first | (go_at_call 25; with_reducible refine (limits_v _ _ n1).mono ?_; rintro e w' ⟨rfl, rfl⟩) | (go_at_call 12; with_reducible refine (part_v _ a1 _ n1).mono ?_; rintro e w' ⟨rfl, rfl⟩) | (go_at_call 13; with_reducible refine (add_v _ a0 a1 _ n1).mono ?_; rintro e w' ⟨rfl, rfl⟩) | (go_at_call 18; with_reducible refine (remove_v _ a0 a1 _ n1).mono ?_; rintro e w' ⟨rfl, rfl⟩) | (go_at_call 14; with_reducible refine (move_v _ a0 a1 _ n1).mono ?_; rintro e w' ⟨rfl, rfl⟩) | (go_at_call 15; with_reducible refine (change_v _ a0 a1 a1 _ n1).mono ?_; rintro e w' ⟨rfl, rfl⟩) | (go_at_call 20; with_reducible refine (set_v _ a1 a1 _ n1).mono ?_; rintro e w' ⟨rfl, rfl⟩) | (go_at_call 26; with_reducible refine (pair_zero _).mono ?_; rintro e w' ⟨rfl, rfl⟩) | (go_at_call 22; with_reducible refine (lawUsed_v _ a0 _ n1).mono ?_; rintro e w' ⟨rfl, rfl⟩) | (go_at_call 19; with_reducible refine (lawTotal_v _ _ n1).mono ?_; rintro e w' ⟨rfl, rfl⟩) | (go_at_call 27; with_reducible refine (lawOver_v _ _ n1).mono ?_; rintro e w' ⟨rfl, rfl⟩) | (go_at_call 28; with_reducible refine (copy_v _ _ n1).mono ?_; rintro e w' ⟨rfl, rfl⟩))
  rw [rounds_succ]
  go_wp2_with (first | (go_at_call 10; refine (known_any _).mono ?_; rintro e w' ⟨rfl, hb⟩))
  go_ret
  exact ⟨rfl, b0.trans (hb.mono b0.size)⟩
end Go.Proofs.Ytfoccffngdhlfaa
