/-
  The contract of cubbyholelaw17's step, whole.
-/
import Derived.Test.YtfoccffngdhlfaaS
namespace Go.Proofs.Ytfoccffngdhlfaa
open Go.ChangeShapes Go.WideShapes Go.ChangeAt Go.RowKit
set_option linter.unusedVariables false

theorem at_set {w : World} {p q i : Nat} {K : Bud} (h : At w p K) (hne : p ≠ q) (u : Value) : At (w.setCell ⟨q, i, none⟩ u) p K := heap_other h hne u
theorem at_result {W : World} {n q : Nat} {K : Bud} {a b c d e f : Value} (h : At W q K) (hne : q ≠ n) : At
    ((((((W.setCell ⟨n, 0, none⟩ a).setCell ⟨n, 1, none⟩ b).setCell ⟨n, 2, none⟩ c).setCell ⟨n, 3, none⟩ d).setCell ⟨n, 4, none⟩ e).setCell ⟨n, 5, none⟩ f).drew q K :=
  heap_drew (at_set (at_set (at_set (at_set (at_set (at_set h hne _) hne _) hne _) hne _) hne _) hne _)

set_option maxRecDepth 100000 in
set_option maxHeartbeats 4000000 in
theorem step_copy (p : Nat) (K : Bud) (x0 x1 x2 x3 : Int) (k : Nat) (hk : k ≤ 60) (w : World) (h : At w p K) (hF : Fair K k) (h0 : ¬ x0 = 0) (h1 : ¬ x0 = 1) (h2 : ¬ x0 = 2) (h3 : ¬ x0 = 3) (h4 : ¬ x0 = 4) :
    Calls Try.prog 24 #[.pointer (some ⟨p, 0, none⟩), .agg #[.int .i64 K.mc, .int .i64 K.mb, .int .i64 K.c0, .int .i64 K.c1, .int .i64 K.b0, .int .i64 K.b1], .agg #[.int .i64 x0, .int .i64 x1, .int .i64 x2, .int .i64 x3]] w fun e w' => Stepped w p (k + 1) e w' := by
  have hp := h.lt
  have hI := hF.inv (by omega)
  have hI1 := (addR_any hF hk 0 5).inv (by omega)
  go_enter Try.func24, Try.ntmps24
  go_upto_region 1 with fail
  refine wp_seen (Sees w p K K x0 x1 x2 x3 ⟨0, 0, 0, 0, 0, 0⟩) (Sees.start h) ?_
  intro W0 hS0
  clear h
  have hsz := hS0.size
  have s0 : W0.cell? ⟨w.heap.size, 0, none⟩ = some (.int .i64 (K.mc)) := cell_of hS0.s 0; have s1 : W0.cell? ⟨w.heap.size, 1, none⟩ = some (.int .i64 (K.mb)) := cell_of hS0.s 1; have s2 : W0.cell? ⟨w.heap.size, 2, none⟩ = some (.int .i64 (K.c0)) := cell_of hS0.s 2; have s3 : W0.cell? ⟨w.heap.size, 3, none⟩ = some (.int .i64 (K.c1)) := cell_of hS0.s 3; have s4 : W0.cell? ⟨w.heap.size, 4, none⟩ = some (.int .i64 (K.b0)) := cell_of hS0.s 4; have s5 : W0.cell? ⟨w.heap.size, 5, none⟩ = some (.int .i64 (K.b1)) := cell_of hS0.s 5; have l0 : W0.cell? ⟨w.heap.size + 1, 0, none⟩ = some (.int .i64 x0) := cell_of hS0.a 0; have l1 : W0.cell? ⟨w.heap.size + 1, 1, none⟩ = some (.int .i64 x1) := cell_of hS0.a 1; have l2 : W0.cell? ⟨w.heap.size + 1, 2, none⟩ = some (.int .i64 x2) := cell_of hS0.a 2; have l3 : W0.cell? ⟨w.heap.size + 1, 3, none⟩ = some (.int .i64 x3) := cell_of hS0.a 3; have r0 : W0.cell? ⟨w.heap.size + 1 + 1, 0, none⟩ = some (.int .i64 0) := cell_of hS0.r 0; have r1 : W0.cell? ⟨w.heap.size + 1 + 1, 1, none⟩ = some (.int .i64 0) := cell_of hS0.r 1; have r2 : W0.cell? ⟨w.heap.size + 1 + 1, 2, none⟩ = some (.int .i64 0) := cell_of hS0.r 2; have r3 : W0.cell? ⟨w.heap.size + 1 + 1, 3, none⟩ = some (.int .i64 0) := cell_of hS0.r 3; have r4 : W0.cell? ⟨w.heap.size + 1 + 1, 4, none⟩ = some (.int .i64 0) := cell_of hS0.r 4; have r5 : W0.cell? ⟨w.heap.size + 1 + 1, 5, none⟩ = some (.int .i64 0) := cell_of hS0.r 5; have fr0 : W0.frozen? ⟨w.heap.size + 1 + 1, 0, none⟩ = false := frozen_of hS0.r 0; have fs0 : W0.frozen? ⟨w.heap.size, 0, none⟩ = false := frozen_of hS0.s 0; have fr1 : W0.frozen? ⟨w.heap.size + 1 + 1, 1, none⟩ = false := frozen_of hS0.r 1; have fs1 : W0.frozen? ⟨w.heap.size, 1, none⟩ = false := frozen_of hS0.s 1; have fr2 : W0.frozen? ⟨w.heap.size + 1 + 1, 2, none⟩ = false := frozen_of hS0.r 2; have fs2 : W0.frozen? ⟨w.heap.size, 2, none⟩ = false := frozen_of hS0.s 2; have fr3 : W0.frozen? ⟨w.heap.size + 1 + 1, 3, none⟩ = false := frozen_of hS0.r 3; have fs3 : W0.frozen? ⟨w.heap.size, 3, none⟩ = false := frozen_of hS0.s 3; have fr4 : W0.frozen? ⟨w.heap.size + 1 + 1, 4, none⟩ = false := frozen_of hS0.r 4; have fs4 : W0.frozen? ⟨w.heap.size, 4, none⟩ = false := frozen_of hS0.s 4; have fr5 : W0.frozen? ⟨w.heap.size + 1 + 1, 5, none⟩ = false := frozen_of hS0.r 5; have fs5 : W0.frozen? ⟨w.heap.size, 5, none⟩ = false := frozen_of hS0.s 5
  go_wp2_with (first | (go_at_call 28; refine (copy_any p K _ hS0.at_ hI).mono ?_; rintro e w' ⟨rfl, rfl⟩; have hS1 := hS0.below hp ((Below.refl W0.heap.size W0).alloc (Nat.le_refl _) (.cells K.cells 56)); have hQ1 : At (W0.alloc (.cells K.cells 56)) W0.heap.size K := At.new) | (go_at_call 13; refine (add_any p K 0 5 _ hS1.at_ hI).mono ?_; rintro e W2 ⟨rfl, k2, A2⟩; have hS2 := hS1.keep hp k2 A2; have hQ2 := hQ1.keep k2 (by omega)) | (go_at_call 20; refine (set_any p _ 1 1 _ hS2.at_ hI1).mono ?_; rintro e W3 ⟨rfl, k3, A3⟩; have hS3 := hS2.keep hp k3 A3; have hQ3 := hQ2.keep k3 (by omega); clear s0 s1 s2 s3 s4 s5 l0 l1 l2 l3 r0 r1 r2 r3 r4 r5 fr0 fr1 fr2 fr3 fr4 fr5 fs0 fs1 fs2 fs3 fs4 fs5 A3 k3 A2 k2 hQ1 hQ2 hS1 hS2; have s0 : W3.cell? ⟨w.heap.size, 0, none⟩ = some (.int .i64 (K.mc)) := cell_of hS3.s 0; have s1 : W3.cell? ⟨w.heap.size, 1, none⟩ = some (.int .i64 (K.mb)) := cell_of hS3.s 1; have s2 : W3.cell? ⟨w.heap.size, 2, none⟩ = some (.int .i64 (K.c0)) := cell_of hS3.s 2; have s3 : W3.cell? ⟨w.heap.size, 3, none⟩ = some (.int .i64 (K.c1)) := cell_of hS3.s 3; have s4 : W3.cell? ⟨w.heap.size, 4, none⟩ = some (.int .i64 (K.b0)) := cell_of hS3.s 4; have s5 : W3.cell? ⟨w.heap.size, 5, none⟩ = some (.int .i64 (K.b1)) := cell_of hS3.s 5; have l0 : W3.cell? ⟨w.heap.size + 1, 0, none⟩ = some (.int .i64 x0) := cell_of hS3.a 0; have l1 : W3.cell? ⟨w.heap.size + 1, 1, none⟩ = some (.int .i64 x1) := cell_of hS3.a 1; have l2 : W3.cell? ⟨w.heap.size + 1, 2, none⟩ = some (.int .i64 x2) := cell_of hS3.a 2; have l3 : W3.cell? ⟨w.heap.size + 1, 3, none⟩ = some (.int .i64 x3) := cell_of hS3.a 3; have r0 : W3.cell? ⟨w.heap.size + 1 + 1, 0, none⟩ = some (.int .i64 0) := cell_of hS3.r 0; have r1 : W3.cell? ⟨w.heap.size + 1 + 1, 1, none⟩ = some (.int .i64 0) := cell_of hS3.r 1; have r2 : W3.cell? ⟨w.heap.size + 1 + 1, 2, none⟩ = some (.int .i64 0) := cell_of hS3.r 2; have r3 : W3.cell? ⟨w.heap.size + 1 + 1, 3, none⟩ = some (.int .i64 0) := cell_of hS3.r 3; have r4 : W3.cell? ⟨w.heap.size + 1 + 1, 4, none⟩ = some (.int .i64 0) := cell_of hS3.r 4; have r5 : W3.cell? ⟨w.heap.size + 1 + 1, 5, none⟩ = some (.int .i64 0) := cell_of hS3.r 5; have fr0 : W3.frozen? ⟨w.heap.size + 1 + 1, 0, none⟩ = false := frozen_of hS3.r 0; have fs0 : W3.frozen? ⟨w.heap.size, 0, none⟩ = false := frozen_of hS3.s 0; have fr1 : W3.frozen? ⟨w.heap.size + 1 + 1, 1, none⟩ = false := frozen_of hS3.r 1; have fs1 : W3.frozen? ⟨w.heap.size, 1, none⟩ = false := frozen_of hS3.s 1; have fr2 : W3.frozen? ⟨w.heap.size + 1 + 1, 2, none⟩ = false := frozen_of hS3.r 2; have fs2 : W3.frozen? ⟨w.heap.size, 2, none⟩ = false := frozen_of hS3.s 2; have fr3 : W3.frozen? ⟨w.heap.size + 1 + 1, 3, none⟩ = false := frozen_of hS3.r 3; have fs3 : W3.frozen? ⟨w.heap.size, 3, none⟩ = false := frozen_of hS3.s 3; have fr4 : W3.frozen? ⟨w.heap.size + 1 + 1, 4, none⟩ = false := frozen_of hS3.r 4; have fs4 : W3.frozen? ⟨w.heap.size, 4, none⟩ = false := frozen_of hS3.s 4; have fr5 : W3.frozen? ⟨w.heap.size + 1 + 1, 5, none⟩ = false := frozen_of hS3.r 5; have fs5 : W3.frozen? ⟨w.heap.size, 5, none⟩ = false := frozen_of hS3.s 5))
  go_region
  all_goals go_wp2_with fail
  generalize (setR (addR K 0 5).2 1 1).2 = KE at hS3
  all_goals refine post_seen (fun W => Sees w p KE K x0 x1 x2 x3 K W ∧ At W W0.heap.size K) ⟨Sees.result hS3 hp, at_result hQ3 (by omega)⟩ ?_
  rintro W9 ⟨hS9, hQ9⟩
  clear s0 s1 s2 s3 s4 s5 l0 l1 l2 l3 r0 r1 r2 r3 r4 r5 fr0 fr1 fr2 fr3 fr4 fr5 fs0 fs1 fs2 fs3 fs4 fs5
  have r0 : W9.cell? ⟨w.heap.size + 1 + 1, 0, none⟩ = some (.int .i64 (K.mc)) := cell_of hS9.r 0
  have r1 : W9.cell? ⟨w.heap.size + 1 + 1, 1, none⟩ = some (.int .i64 (K.mb)) := cell_of hS9.r 1
  have r2 : W9.cell? ⟨w.heap.size + 1 + 1, 2, none⟩ = some (.int .i64 (K.c0)) := cell_of hS9.r 2
  have r3 : W9.cell? ⟨w.heap.size + 1 + 1, 3, none⟩ = some (.int .i64 (K.c1)) := cell_of hS9.r 3
  have r4 : W9.cell? ⟨w.heap.size + 1 + 1, 4, none⟩ = some (.int .i64 (K.b0)) := cell_of hS9.r 4
  have r5 : W9.cell? ⟨w.heap.size + 1 + 1, 5, none⟩ = some (.int .i64 (K.b1)) := cell_of hS9.r 5
  exact bodyPost_ret (v := .tuple #[.pointer (some ⟨W0.heap.size, 0, none⟩), .agg #[.int .i64 K.mc, .int .i64 K.mb, .int .i64 K.c0, .int .i64 K.c1, .int .i64 K.b0, .int .i64 K.b1], .bool true]) (by simp [results, Try.results24, go_sem, r0, r1, r2, r3, r4, r5]) rfl ⟨W0.heap.size, K, rfl, hS9.k, hQ9, hF.up, .inr (by omega)⟩

theorem step_any (p : Nat) (K : Bud) (x0 x1 x2 x3 : Int) (k : Nat) (hk : k ≤ 60) (w : World) (h : At w p K) (hF : Fair K k) :
    Calls Try.prog 24 #[.pointer (some ⟨p, 0, none⟩), .agg #[.int .i64 K.mc, .int .i64 K.mb, .int .i64 K.c0, .int .i64 K.c1, .int .i64 K.b0, .int .i64 K.b1], .agg #[.int .i64 x0, .int .i64 x1, .int .i64 x2, .int .i64 x3]] w fun e w' => Stepped w p (k + 1) e w' := by
  by_cases e0 : x0 = 0
  · subst e0
    cases hf : fairB x1 x2
    · exact step_add_arg p K x1 x2 x3 k hk w h hF hf
    · rcases fair_seg hf with rfl | rfl
      · exact step_add0 p K x2 x3 k hk w h hF hf
      · exact step_add1 p K x2 x3 k hk w h hF hf
  by_cases e1 : x0 = 1
  · subst e1
    cases hf : fairB x1 x2
    · exact step_remove_arg p K x1 x2 x3 k hk w h hF hf
    · rcases fair_seg hf with rfl | rfl
      · cases hh : hasB K.c0 K.b0 x2
        · exact step_remove_no0 p K x2 x3 k hk w h hF hf hh
        · exact step_remove0 p K x2 x3 k hk w h hF hf hh
      · cases hh : hasB K.c1 K.b1 x2
        · exact step_remove_no1 p K x2 x3 k hk w h hF hf hh
        · exact step_remove1 p K x2 x3 k hk w h hF hf hh
  by_cases e2 : x0 = 2
  · subst e2
    cases hf : fairB x1 x2
    · exact step_move_arg p K x1 x2 x3 k hk w h hF hf
    · rcases fair_seg hf with rfl | rfl
      · cases hh : hasB K.c0 K.b0 x2
        · exact step_move_no0 p K x2 x3 k hk w h hF hf hh
        · exact step_move0 p K x2 x3 k hk w h hF hf hh
      · cases hh : hasB K.c1 K.b1 x2
        · exact step_move_no1 p K x2 x3 k hk w h hF hf hh
        · exact step_move1 p K x2 x3 k hk w h hF hf hh
  by_cases e3 : x0 = 3
  · subst e3
    cases hf : fairB x1 x2
    · exact step_change_arg p K x1 x2 x3 k hk w h hF hf
    · cases hf3 : fairB x1 x3
      · exact step_change_arg2 p K x1 x2 x3 k hk w h hF hf hf3
      · rcases fair_seg hf with rfl | rfl
        · cases hh : hasB K.c0 K.b0 x2
          · exact step_change_no0 p K x2 x3 k hk w h hF hf hf3 hh
          · exact step_change0 p K x2 x3 k hk w h hF hf hf3 hh
        · cases hh : hasB K.c1 K.b1 x2
          · exact step_change_no1 p K x2 x3 k hk w h hF hf hf3 hh
          · exact step_change1 p K x2 x3 k hk w h hF hf hf3 hh
  by_cases e4 : x0 = 4
  · subst e4
    cases hf : okB x2 x3
    · exact step_set_arg p K x1 x2 x3 k hk w h hF hf
    · exact step_set p K x1 x2 x3 k hk w h hF hf
  exact step_copy p K x0 x1 x2 x3 k hk w h hF e0 e1 e2 e3 e4
end Go.Proofs.Ytfoccffngdhlfaa
