/-
  The contract of cubbyholelaw17.is, and the walks of BudgetNew and BudgetParts.
-/
import Derived.Test.YtfoccffngdhlfaaG
namespace Go.Proofs.Ytfoccffngdhlfaa
open Go.ChangeShapes Go.WideShapes Go.ChangeAt Go.RowKit
set_option linter.unusedVariables false

theorem usedNo (K : Bud) {g : Int} (h : fairB g 0 = false) : usedN K g = 0 ∧ usedC K g = 0 := by
  unfold usedN usedC; simp [h]

set_option maxHeartbeats 4000000 in
theorem is_any (p : Nat) (K : Bud) (w : World) (h : At w p K) (hI : K.Inv) :
    Calls Try.prog 23 #[.pointer (some ⟨p, 0, none⟩), .agg #[.int .i64 K.mc, .int .i64 K.mb, .int .i64 K.c0, .int .i64 K.c1, .int .i64 K.b0, .int .i64 K.b1]] w fun e w' => e = .returned (.bool true) ∧ Below w.heap.size w w' := by
  have q0 := hI.c0; have q1 := hI.C0; have q2 := hI.b0; have q3 := hI.B0; have q4 := hI.c1; have q5 := hI.C1; have q6 := hI.b1; have q7 := hI.B1
  obtain ⟨o0, o1, o2, o3⟩ := okB_iff.1 hI.ok
  have e1 : wrap64 (K.c0 + K.c1) = K.c0 + K.c1 := wrap_in (by omega)
  have e2 : wrap64 (K.b0 + K.b1) = K.b0 + K.b1 := wrap_in (by omega)
  have e3 : wrap64 (K.c0 + K.c1 - K.mc) = K.c0 + K.c1 - K.mc := wrap_in (by omega)
  have e4 : wrap64 (K.b0 + K.b1 - K.mb) = K.b0 + K.b1 - K.mb := wrap_in (by omega)
  have r26 : eq2 K.mc K.mb K.mc K.mb = true := eq2_iff.2 ⟨rfl, rfl⟩
  have u2 : eq2 (usedN K 0) (usedC K 0) K.c0 K.b0 = true := eq2_iff.2 ⟨rfl, rfl⟩
  have u3 : eq2 (usedN K 1) (usedC K 1) K.c1 K.b1 = true := eq2_iff.2 ⟨rfl, rfl⟩
  have u4 : eq2 (usedN K 2) (usedC K 2) 0 0 = true := eq2_iff.2 (usedNo K rfl)
  have u5 : eq2 (usedN K (-1)) (usedC K (-1)) 0 0 = true := eq2_iff.2 (usedNo K rfl)
  have t6 : eq2 (K.c0 + K.c1) (K.b0 + K.b1) (K.c0 + K.c1) (K.b0 + K.b1) = true := eq2_iff.2 ⟨rfl, rfl⟩
  have h0 : At (w.alloc (.cells #[.int .i64 K.mc, .int .i64 K.mb, .int .i64 K.c0, .int .i64 K.c1, .int .i64 K.b0, .int .i64 K.b1] 48)) p K := heap_alloc h _
  have hB0 : (w.alloc (.cells #[.int .i64 K.mc, .int .i64 K.mb, .int .i64 K.c0, .int .i64 K.c1, .int .i64 K.b0, .int .i64 K.b1] 48)).heap[w.heap.size]? = some (.cells #[.int .i64 K.mc, .int .i64 K.mb, .int .i64 K.c0, .int .i64 K.c1, .int .i64 K.b0, .int .i64 K.b1] 48 (0, 0)) := heap_new rfl
  have K0 : Below w.heap.size w (w.alloc (.cells #[.int .i64 K.mc, .int .i64 K.mb, .int .i64 K.c0, .int .i64 K.c1, .int .i64 K.b0, .int .i64 K.b1] 48)) := (Below.refl _ _).alloc (Nat.le_refl _) _
  have N := Lib.hid (show eq2 (max 0 (K.c0 + K.c1 - K.mc)) (max 0 (K.b0 + K.b1 - K.mb)) (max 0 (K.c0 + K.c1 - K.mc)) (max 0 (K.b0 + K.b1 - K.mb)) = true from eq2_iff.2 ⟨rfl, rfl⟩)
  clear h
  go_enter Try.func23, Try.ntmps23
  go_wp2_with fail
  go_at_call 25
  with_reducible refine (limits_any p K _ h0 hI).mono ?_
  rintro e w1 ⟨rfl, hb1⟩
  have hB1 := heap_below hB0 hb1
  have h1 := At.below h0 hb1
  have K1 := (K0).trans (hb1.mono (K0).size)
  clear hb1 hB0 h0 K0
  have l0 : w1.cell? ⟨w.heap.size, 0, none⟩ = some (.int .i64 K.mc) := cell_of hB1 0
  have l1 : w1.cell? ⟨w.heap.size, 1, none⟩ = some (.int .i64 K.mb) := cell_of hB1 1
  have l2 : w1.cell? ⟨w.heap.size, 2, none⟩ = some (.int .i64 K.c0) := cell_of hB1 2
  have l3 : w1.cell? ⟨w.heap.size, 3, none⟩ = some (.int .i64 K.c1) := cell_of hB1 3
  have l4 : w1.cell? ⟨w.heap.size, 4, none⟩ = some (.int .i64 K.b0) := cell_of hB1 4
  have l5 : w1.cell? ⟨w.heap.size, 5, none⟩ = some (.int .i64 K.b1) := cell_of hB1 5
  go_wp2_with fail
  go_at_call 26
  with_reducible refine (pair_any K.mc K.mb K.mc K.mb _).mono ?_
  rw [r26]
  rintro e w' ⟨rfl, rfl⟩
  go_wp2_with fail
  go_at_call 22
  with_reducible refine (lawUsed_any p K 0 K.c0 K.b0 _ h1 hI).mono ?_
  rw [u2]
  rintro e w2 ⟨rfl, hb2⟩
  have hB2 := heap_below hB1 hb2
  have h2 := At.below h1 hb2
  have K2 := (K1).trans (hb2.mono (K1).size)
  clear hb2 hB1 h1 K1
  have l0 : w2.cell? ⟨w.heap.size, 0, none⟩ = some (.int .i64 K.mc) := cell_of hB2 0
  have l1 : w2.cell? ⟨w.heap.size, 1, none⟩ = some (.int .i64 K.mb) := cell_of hB2 1
  have l2 : w2.cell? ⟨w.heap.size, 2, none⟩ = some (.int .i64 K.c0) := cell_of hB2 2
  have l3 : w2.cell? ⟨w.heap.size, 3, none⟩ = some (.int .i64 K.c1) := cell_of hB2 3
  have l4 : w2.cell? ⟨w.heap.size, 4, none⟩ = some (.int .i64 K.b0) := cell_of hB2 4
  have l5 : w2.cell? ⟨w.heap.size, 5, none⟩ = some (.int .i64 K.b1) := cell_of hB2 5
  go_wp2_with fail
  go_at_call 22
  with_reducible refine (lawUsed_any p K 1 K.c1 K.b1 _ h2 hI).mono ?_
  rw [u3]
  rintro e w3 ⟨rfl, hb3⟩
  have hB3 := heap_below hB2 hb3
  have h3 := At.below h2 hb3
  have K3 := (K2).trans (hb3.mono (K2).size)
  clear hb3 hB2 h2 K2
  have l0 : w3.cell? ⟨w.heap.size, 0, none⟩ = some (.int .i64 K.mc) := cell_of hB3 0
  have l1 : w3.cell? ⟨w.heap.size, 1, none⟩ = some (.int .i64 K.mb) := cell_of hB3 1
  have l2 : w3.cell? ⟨w.heap.size, 2, none⟩ = some (.int .i64 K.c0) := cell_of hB3 2
  have l3 : w3.cell? ⟨w.heap.size, 3, none⟩ = some (.int .i64 K.c1) := cell_of hB3 3
  have l4 : w3.cell? ⟨w.heap.size, 4, none⟩ = some (.int .i64 K.b0) := cell_of hB3 4
  have l5 : w3.cell? ⟨w.heap.size, 5, none⟩ = some (.int .i64 K.b1) := cell_of hB3 5
  go_wp2_with fail
  go_at_call 22
  with_reducible refine (lawUsed_any p K 2 0 0 _ h3 hI).mono ?_
  rw [u4]
  rintro e w4 ⟨rfl, hb4⟩
  have hB4 := heap_below hB3 hb4
  have h4 := At.below h3 hb4
  have K4 := (K3).trans (hb4.mono (K3).size)
  clear hb4 hB3 h3 K3
  have l0 : w4.cell? ⟨w.heap.size, 0, none⟩ = some (.int .i64 K.mc) := cell_of hB4 0
  have l1 : w4.cell? ⟨w.heap.size, 1, none⟩ = some (.int .i64 K.mb) := cell_of hB4 1
  have l2 : w4.cell? ⟨w.heap.size, 2, none⟩ = some (.int .i64 K.c0) := cell_of hB4 2
  have l3 : w4.cell? ⟨w.heap.size, 3, none⟩ = some (.int .i64 K.c1) := cell_of hB4 3
  have l4 : w4.cell? ⟨w.heap.size, 4, none⟩ = some (.int .i64 K.b0) := cell_of hB4 4
  have l5 : w4.cell? ⟨w.heap.size, 5, none⟩ = some (.int .i64 K.b1) := cell_of hB4 5
  go_wp2_with fail
  go_at_call 22
  with_reducible refine (lawUsed_any p K (-1) 0 0 _ h4 hI).mono ?_
  rw [u5]
  rintro e w5 ⟨rfl, hb5⟩
  have hB5 := heap_below hB4 hb5
  have h5 := At.below h4 hb5
  have K5 := (K4).trans (hb5.mono (K4).size)
  clear hb5 hB4 h4 K4
  have l0 : w5.cell? ⟨w.heap.size, 0, none⟩ = some (.int .i64 K.mc) := cell_of hB5 0
  have l1 : w5.cell? ⟨w.heap.size, 1, none⟩ = some (.int .i64 K.mb) := cell_of hB5 1
  have l2 : w5.cell? ⟨w.heap.size, 2, none⟩ = some (.int .i64 K.c0) := cell_of hB5 2
  have l3 : w5.cell? ⟨w.heap.size, 3, none⟩ = some (.int .i64 K.c1) := cell_of hB5 3
  have l4 : w5.cell? ⟨w.heap.size, 4, none⟩ = some (.int .i64 K.b0) := cell_of hB5 4
  have l5 : w5.cell? ⟨w.heap.size, 5, none⟩ = some (.int .i64 K.b1) := cell_of hB5 5
  go_wp2_with fail
  go_at_call 19
  with_reducible refine (lawTotal_any p K (K.c0 + K.c1) (K.b0 + K.b1) _ h5 hI).mono ?_
  rw [t6]
  rintro e w6 ⟨rfl, hb6⟩
  have hB6 := heap_below hB5 hb6
  have h6 := At.below h5 hb6
  have K6 := (K5).trans (hb6.mono (K5).size)
  clear hb6 hB5 h5 K5
  have l0 : w6.cell? ⟨w.heap.size, 0, none⟩ = some (.int .i64 K.mc) := cell_of hB6 0
  have l1 : w6.cell? ⟨w.heap.size, 1, none⟩ = some (.int .i64 K.mb) := cell_of hB6 1
  have l2 : w6.cell? ⟨w.heap.size, 2, none⟩ = some (.int .i64 K.c0) := cell_of hB6 2
  have l3 : w6.cell? ⟨w.heap.size, 3, none⟩ = some (.int .i64 K.c1) := cell_of hB6 3
  have l4 : w6.cell? ⟨w.heap.size, 4, none⟩ = some (.int .i64 K.b0) := cell_of hB6 4
  have l5 : w6.cell? ⟨w.heap.size, 5, none⟩ = some (.int .i64 K.b1) := cell_of hB6 5
  go_wp2_with fail
  all_goals (go_at_call 27; refine (lawOver_any p K _ _ _ h6 hI).mono ?_; rintro e w7 ⟨rfl, hb7⟩; have K7 := (K6).trans (hb7.mono (K6).size))
  all_goals go_wp2_with fail
  all_goals go_ret
  all_goals refine ⟨ret_bool ?_, K7⟩
  all_goals (rw [eq2_iff]; omega)

theorem budgetNew_walk (a0 a1 : Int) (w0 : (Lit.int .i64 a0).wf = true) (w1 : (Lit.int .i64 a1).wf = true) (w : World) :
    Calls Try.prog 6 #[.int .i64 a0, .int .i64 a1] w fun e w' => e = .returned (.bool true) ∧ Below w.heap.size w w' := by
  clear w0 w1
  cases hf : okB a0 a1
  · go_enter Try.func6, Try.ntmps6
    go_wp2_with (first | (go_at_call 11; refine (new_no _ _ _ hf).mono ?_; rintro e w' ⟨rfl, rfl⟩) | (go_at_call 9; refine (law_allowed_any _ _ _).mono ?_; rw [hf]; rintro e w' ⟨rfl, rfl⟩) | (go_at_call 10; refine (known_any _).mono ?_; rintro e w' ⟨rfl, hb⟩))
    go_ret
    exact ⟨rfl, hb⟩
  · have hI : (newB a0 a1).Inv := ⟨hf, by show (0 : Int) ≤ 0; omega, by show (0 : Int) ≤ 2097152; omega, by show (0 : Int) ≤ 0; omega, by show (0 : Int) ≤ 2305843009213693952; omega, by show (0 : Int) ≤ 0; omega, by show (0 : Int) ≤ 2097152; omega, by show (0 : Int) ≤ 0; omega, by show (0 : Int) ≤ 2305843009213693952; omega⟩
    have hA : At (w.alloc (.cells (newB a0 a1).cells 56)) w.heap.size (newB a0 a1) := At.new
    have h9 : Calls Try.prog 23 #[.pointer (some ⟨w.heap.size, 0, none⟩), .agg #[.int .i64 a0, .int .i64 a1, .int .i64 0, .int .i64 0, .int .i64 0, .int .i64 0]] (w.alloc (.cells (newB a0 a1).cells 56)) fun e w' => e = .returned (.bool true) ∧ Below (w.alloc (.cells (newB a0 a1).cells 56)).heap.size (w.alloc (.cells (newB a0 a1).cells 56)) w' := is_any w.heap.size (newB a0 a1) _ hA hI
    go_enter Try.func6, Try.ntmps6
    go_wp2_with (first | (go_at_call 11; refine (new_ok _ _ _ hf).mono ?_; rintro e w' ⟨rfl, rfl⟩) | (go_at_call 9; refine (law_allowed_any _ _ _).mono ?_; rw [hf]; rintro e w' ⟨rfl, rfl⟩) | (go_at_call 23; refine h9.mono ?_; rintro e w2 ⟨rfl, hb2⟩) | (go_at_call 10; refine (known_any _).mono ?_; rintro e w3 ⟨rfl, hb3⟩))
    go_ret
    have k1 : Below w.heap.size w (w.alloc (.cells (newB a0 a1).cells 56)) := (Below.refl _ _).alloc (Nat.le_refl _) _
    have k2 := k1.trans (hb2.mono k1.size)
    exact ⟨rfl, k2.trans (hb3.mono k2.size)⟩
end Go.Proofs.Ytfoccffngdhlfaa
