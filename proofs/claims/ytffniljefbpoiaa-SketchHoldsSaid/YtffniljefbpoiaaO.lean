/-
  The contract of the reference's New.
-/
import Derived.Test.YtffniljefbpoiaaN
namespace Go.Proofs.Ytffniljefbpoiaa
open Go.ChangeShapes Go.WideShapes Go.ChangeAt Go.RowKit
set_option linter.unusedVariables false

/-- A number is one of the first powers of two from sixteen on. -/
def pwTo : Nat → Int → Bool
  | 0, _ => false
  | j + 1, x => pwTo j x || (((16 * 2 ^ j : Nat) : Int) == x)
theorem pwTo_width (n : Nat) : pwTo 13 (n : Int) = widthB n := by
  have e : ∀ m : Nat, (((m : Nat) : Int) == (n : Int)) = (n == m) := fun m => by
    by_cases h : n = m
    · subst h; simp
    · have h1 : (((m : Nat) : Int) == (n : Int)) = false := by rw [beq_eq_false_iff_ne]; omega
      have h2 : (n == m) = false := by rw [beq_eq_false_iff_ne]; exact h
      rw [h1, h2]
  simp only [pwTo, e, widthB, Bool.false_or]
theorem pwTo_neg {x : Int} (h : x < 0) : ∀ j, pwTo j x = false
  | 0 => rfl
  | j + 1 => by
    show (pwTo j x || (((16 * 2 ^ j : Nat) : Int) == x)) = false
    rw [pwTo_neg h j, Bool.false_or, beq_eq_false_iff_ne]
    generalize 16 * 2 ^ j = m
    omega
/-- A reference sketch is being made: 0 rows. -/
def Nk0 (w : World) (n s : Nat) (seed : Int) (T p : Nat) (W : World) : Prop :=
  Below w.heap.size w W ∧ (w.heap.size ≤ p ∧ w.heap.size ≤ T ∧ p ≠ T) ∧ W.heap[T]? = some (.cells #[.int .i64 0, .int .i64 0, .int .i64 0, .int .u64 0, .slice none 0 0, .slice none 0 0, .slice none 0 0, .slice none 0 0] 27 (0, 0)) ∧ W.heap[p]? = some (.cells #[.int .i64 (n : Nat), .int .i64 (s : Nat), .int .i64 0, .int .u64 seed, .slice none 0 0, .slice none 0 0, .slice none 0 0, .slice none 0 0] 27 (0, 0))
/-- A reference sketch is being made: 1 rows. -/
def Nk1 (w : World) (n s : Nat) (seed : Int) (T p : Nat) (g0 : Nat) (W : World) : Prop :=
  Below w.heap.size w W ∧ (w.heap.size ≤ p ∧ w.heap.size ≤ T ∧ p ≠ T) ∧ W.heap[T]? = some (.cells #[.int .i64 0, .int .i64 0, .int .i64 0, .int .u64 0, .slice none 0 0, .slice none 0 0, .slice none 0 0, .slice none 0 0] 27 (0, 0)) ∧ W.heap[p]? = some (.cells #[.int .i64 (n : Nat), .int .i64 (s : Nat), .int .i64 0, .int .u64 seed, .slice (some ⟨g0, 0, none⟩) n n, .slice none 0 0, .slice none 0 0, .slice none 0 0] 27 (0, 0)) ∧ (w.heap.size ≤ g0 ∧ Nums W .i64 3 g0 n n (fun _ => 0))
/-- A reference sketch is being made: 2 rows. -/
def Nk2 (w : World) (n s : Nat) (seed : Int) (T p : Nat) (g0 g1 : Nat) (W : World) : Prop :=
  Below w.heap.size w W ∧ (w.heap.size ≤ p ∧ w.heap.size ≤ T ∧ p ≠ T) ∧ W.heap[T]? = some (.cells #[.int .i64 0, .int .i64 0, .int .i64 0, .int .u64 0, .slice none 0 0, .slice none 0 0, .slice none 0 0, .slice none 0 0] 27 (0, 0)) ∧ W.heap[p]? = some (.cells #[.int .i64 (n : Nat), .int .i64 (s : Nat), .int .i64 0, .int .u64 seed, .slice (some ⟨g0, 0, none⟩) n n, .slice (some ⟨g1, 0, none⟩) n n, .slice none 0 0, .slice none 0 0] 27 (0, 0)) ∧ (w.heap.size ≤ g0 ∧ Nums W .i64 3 g0 n n (fun _ => 0)) ∧ (w.heap.size ≤ g1 ∧ g0 < g1 ∧ Nums W .i64 3 g1 n n (fun _ => 0))
/-- A reference sketch is being made: 3 rows. -/
def Nk3 (w : World) (n s : Nat) (seed : Int) (T p : Nat) (g0 g1 g2 : Nat) (W : World) : Prop :=
  Below w.heap.size w W ∧ (w.heap.size ≤ p ∧ w.heap.size ≤ T ∧ p ≠ T) ∧ W.heap[T]? = some (.cells #[.int .i64 0, .int .i64 0, .int .i64 0, .int .u64 0, .slice none 0 0, .slice none 0 0, .slice none 0 0, .slice none 0 0] 27 (0, 0)) ∧ W.heap[p]? = some (.cells #[.int .i64 (n : Nat), .int .i64 (s : Nat), .int .i64 0, .int .u64 seed, .slice (some ⟨g0, 0, none⟩) n n, .slice (some ⟨g1, 0, none⟩) n n, .slice (some ⟨g2, 0, none⟩) n n, .slice none 0 0] 27 (0, 0)) ∧ (w.heap.size ≤ g0 ∧ Nums W .i64 3 g0 n n (fun _ => 0)) ∧ (w.heap.size ≤ g1 ∧ g0 < g1 ∧ Nums W .i64 3 g1 n n (fun _ => 0)) ∧ (w.heap.size ≤ g2 ∧ g1 < g2 ∧ Nums W .i64 3 g2 n n (fun _ => 0))
/-- A reference sketch is being made: 4 rows. -/
def Nk4 (w : World) (n s : Nat) (seed : Int) (T p : Nat) (g0 g1 g2 g3 : Nat) (W : World) : Prop :=
  Below w.heap.size w W ∧ (w.heap.size ≤ p ∧ w.heap.size ≤ T ∧ p ≠ T) ∧ W.heap[T]? = some (.cells #[.int .i64 0, .int .i64 0, .int .i64 0, .int .u64 0, .slice none 0 0, .slice none 0 0, .slice none 0 0, .slice none 0 0] 27 (0, 0)) ∧ W.heap[p]? = some (.cells #[.int .i64 (n : Nat), .int .i64 (s : Nat), .int .i64 0, .int .u64 seed, .slice (some ⟨g0, 0, none⟩) n n, .slice (some ⟨g1, 0, none⟩) n n, .slice (some ⟨g2, 0, none⟩) n n, .slice (some ⟨g3, 0, none⟩) n n] 27 (0, 0)) ∧ (w.heap.size ≤ g0 ∧ Nums W .i64 3 g0 n n (fun _ => 0)) ∧ (w.heap.size ≤ g1 ∧ g0 < g1 ∧ Nums W .i64 3 g1 n n (fun _ => 0)) ∧ (w.heap.size ≤ g2 ∧ g1 < g2 ∧ Nums W .i64 3 g2 n n (fun _ => 0)) ∧ (w.heap.size ≤ g3 ∧ g2 < g3 ∧ Nums W .i64 3 g3 n n (fun _ => 0))
theorem Nk0.step {w W : World} {n s : Nat} {seed : Int} {T p : Nat} (hn : n ≤ 65536) (h : Nk0 w n s seed T p W) : Nk1 w n s seed T p W.heap.size ((W.setCell ⟨p, 4, none⟩ (.slice (some ⟨W.heap.size, 0, none⟩) n n)).alloc (.cells (madeCells #[.int .i64 0] n) 3)) := by
  obtain ⟨b, ⟨hp, hT, ne⟩, ht, ho⟩ := h
  have hz : Nums ((W.setCell ⟨p, 4, none⟩ (.slice (some ⟨W.heap.size, 0, none⟩) n n)).alloc (.cells (madeCells #[.int .i64 0] n) 3)) .i64 3 (W.setCell ⟨p, 4, none⟩ (.slice (some ⟨W.heap.size, 0, none⟩) n n)).heap.size n n (fun _ => 0) := Nums.zeros (by have := hn; unfold maxLen; omega)
  rw [size_set] at hz
  exact ⟨(b.setCell hp _).alloc (by rw [size_set]; exact b.size) _, ⟨hp, hT, ne⟩, heap_alloc (heap_other ht (Ne.symm ne) _) _, heap_alloc (heap_set ho _) _, ⟨b.size, hz⟩⟩
theorem Nk1.step {w W : World} {n s : Nat} {seed : Int} {T p : Nat} {g0 : Nat} (hn : n ≤ 65536) (h : Nk1 w n s seed T p g0 W) : Nk2 w n s seed T p g0 W.heap.size ((W.setCell ⟨p, 5, none⟩ (.slice (some ⟨W.heap.size, 0, none⟩) n n)).alloc (.cells (madeCells #[.int .i64 0] n) 3)) := by
  obtain ⟨b, ⟨hp, hT, ne⟩, ht, ho, ⟨l0, n0⟩⟩ := h
  have hz : Nums ((W.setCell ⟨p, 5, none⟩ (.slice (some ⟨W.heap.size, 0, none⟩) n n)).alloc (.cells (madeCells #[.int .i64 0] n) 3)) .i64 3 (W.setCell ⟨p, 5, none⟩ (.slice (some ⟨W.heap.size, 0, none⟩) n n)).heap.size n n (fun _ => 0) := Nums.zeros (by have := hn; unfold maxLen; omega)
  rw [size_set] at hz
  exact ⟨(b.setCell hp _).alloc (by rw [size_set]; exact b.size) _, ⟨hp, hT, ne⟩, heap_alloc (heap_other ht (Ne.symm ne) _) _, heap_alloc (heap_set ho _) _, ⟨l0, (n0.other (fun e => by subst e; obtain ⟨c, hc, _⟩ := n0; rw [hc] at ho; cases ho) _).alloc _⟩, ⟨b.size, n0.lt, hz⟩⟩
theorem Nk2.step {w W : World} {n s : Nat} {seed : Int} {T p : Nat} {g0 : Nat} {g1 : Nat} (hn : n ≤ 65536) (h : Nk2 w n s seed T p g0 g1 W) : Nk3 w n s seed T p g0 g1 W.heap.size ((W.setCell ⟨p, 6, none⟩ (.slice (some ⟨W.heap.size, 0, none⟩) n n)).alloc (.cells (madeCells #[.int .i64 0] n) 3)) := by
  obtain ⟨b, ⟨hp, hT, ne⟩, ht, ho, ⟨l0, n0⟩, ⟨l1, o1, n1⟩⟩ := h
  have hz : Nums ((W.setCell ⟨p, 6, none⟩ (.slice (some ⟨W.heap.size, 0, none⟩) n n)).alloc (.cells (madeCells #[.int .i64 0] n) 3)) .i64 3 (W.setCell ⟨p, 6, none⟩ (.slice (some ⟨W.heap.size, 0, none⟩) n n)).heap.size n n (fun _ => 0) := Nums.zeros (by have := hn; unfold maxLen; omega)
  rw [size_set] at hz
  exact ⟨(b.setCell hp _).alloc (by rw [size_set]; exact b.size) _, ⟨hp, hT, ne⟩, heap_alloc (heap_other ht (Ne.symm ne) _) _, heap_alloc (heap_set ho _) _, ⟨l0, (n0.other (fun e => by subst e; obtain ⟨c, hc, _⟩ := n0; rw [hc] at ho; cases ho) _).alloc _⟩, ⟨l1, o1, (n1.other (fun e => by subst e; obtain ⟨c, hc, _⟩ := n1; rw [hc] at ho; cases ho) _).alloc _⟩, ⟨b.size, n1.lt, hz⟩⟩
theorem Nk3.step {w W : World} {n s : Nat} {seed : Int} {T p : Nat} {g0 : Nat} {g1 : Nat} {g2 : Nat} (hn : n ≤ 65536) (h : Nk3 w n s seed T p g0 g1 g2 W) : Nk4 w n s seed T p g0 g1 g2 W.heap.size ((W.setCell ⟨p, 7, none⟩ (.slice (some ⟨W.heap.size, 0, none⟩) n n)).alloc (.cells (madeCells #[.int .i64 0] n) 3)) := by
  obtain ⟨b, ⟨hp, hT, ne⟩, ht, ho, ⟨l0, n0⟩, ⟨l1, o1, n1⟩, ⟨l2, o2, n2⟩⟩ := h
  have hz : Nums ((W.setCell ⟨p, 7, none⟩ (.slice (some ⟨W.heap.size, 0, none⟩) n n)).alloc (.cells (madeCells #[.int .i64 0] n) 3)) .i64 3 (W.setCell ⟨p, 7, none⟩ (.slice (some ⟨W.heap.size, 0, none⟩) n n)).heap.size n n (fun _ => 0) := Nums.zeros (by have := hn; unfold maxLen; omega)
  rw [size_set] at hz
  exact ⟨(b.setCell hp _).alloc (by rw [size_set]; exact b.size) _, ⟨hp, hT, ne⟩, heap_alloc (heap_other ht (Ne.symm ne) _) _, heap_alloc (heap_set ho _) _, ⟨l0, (n0.other (fun e => by subst e; obtain ⟨c, hc, _⟩ := n0; rw [hc] at ho; cases ho) _).alloc _⟩, ⟨l1, o1, (n1.other (fun e => by subst e; obtain ⟨c, hc, _⟩ := n1; rw [hc] at ho; cases ho) _).alloc _⟩, ⟨l2, o2, (n2.other (fun e => by subst e; obtain ⟨c, hc, _⟩ := n2; rw [hc] at ho; cases ho) _).alloc _⟩, ⟨b.size, n2.lt, hz⟩⟩
/-- The loop over the powers of two. -/
def PwRel (w : World) (n : Int) (v x : Value) (W : World) : Prop := ∃ j : Nat, j ≤ 13 ∧ x = .int .i64 ((16 * 2 ^ j : Nat) : Int) ∧ v = .bool (pwTo j n) ∧ W = w.alloc (.cells #[.int .i64 0, .int .i64 0, .int .i64 0, .int .u64 0, .slice none 0 0, .slice none 0 0, .slice none 0 0, .slice none 0 0] 27)
theorem pow_small {j : Nat} (h : j ≤ 13) : 16 * 2 ^ j ≤ 131072 ∧ (j < 13 → 16 * 2 ^ j ≤ 65536) ∧ (j = 13 → 16 * 2 ^ j = 131072) := by
  have a : 2 ^ j ≤ 2 ^ 13 := Nat.pow_le_pow_right (by omega) h
  refine ⟨by omega, fun q => ?_, fun q => by subst q; decide⟩
  have b : 2 ^ j ≤ 2 ^ 12 := Nat.pow_le_pow_right (by omega) (by omega)
  omega
set_option maxRecDepth 100000 in
set_option maxHeartbeats 4000000 in
theorem refNew_ok (n s : Nat) (seed : Int) (h1 : widthB n = true) (h2 : s ≤ 16777216) (h3 : Word seed) (w : World) : Calls Try.prog 8 #[.int .i64 (n : Nat), .int .u64 seed, .int .i64 (s : Nat)] w fun e w' => ∃ R C, e = .returned (.tuple #[.agg (refC (Sk.new n seed s) R C), .int .i64 0]) ∧ Below w.heap.size w w' ∧ (∀ r, r < 4 → w.heap.size ≤ R r) ∧ (∀ r s, r < 4 → s < 4 → r ≠ s → R r ≠ R s) ∧ IsRef w' R C (Sk.new n seed s) := by
  obtain ⟨e, p1, p2, p3⟩ := width_pow h1
  have hn0 : 16 ≤ n := by rw [p3]; exact Nat.pow_le_pow_right (n := 2) (i := 4) (by omega) p1
  have hn1 : n ≤ 65536 := by rw [p3]; exact Nat.pow_le_pow_right (n := 2) (j := 16) (by omega) p2
  have hw13 := Lib.hid (pwTo_width n)
  have hmk := make_ints n hn1
  clear p1 p2 p3
  go_enter Try.func8, Try.ntmps8
  go_wp2_with fail
  go_loopw [8, 9] (PwRel w (n : Int)) (fun _ x _ => 131073 - (intOf x).toNat)
  case atStart => exact ⟨0, by omega, rfl, rfl, rfl⟩
  case round =>
    obtain ⟨j, hj, rfl, rfl, rfl⟩ := hrel
    obtain ⟨q0, q1, q2⟩ := pow_small hj
    by_cases hj3 : j < 13
    · have q3 := q1 hj3
      have e0 : pwTo (j + 1) (n : Int) = (pwTo j (n : Int) || (((16 * 2 ^ j : Nat) : Int) == (n : Int))) := rfl
      have e1 : ((16 * 2 ^ (j + 1) : Nat) : Int) = ((16 * 2 ^ j : Nat) : Int) * 2 := by rw [Nat.pow_succ]; omega
      have E0 := Lib.hid e0
      have E1 := Lib.hid e1
      have hpos : 16 ≤ 16 * 2 ^ j := by have : 0 < 2 ^ j := Nat.pow_pos (by omega); omega
      clear e0 e1 q1 q2 hmk
      generalize pwTo j (n : Int) = y at *
      generalize 16 * 2 ^ j = x at *
      go_wp2_with fail
      all_goals
        refine ⟨⟨j + 1, by omega, by rw [E1.out], ?_, rfl⟩, by simp [intOf]; omega⟩
        rw [E0.out]; first | (rw [‹y = true›]; rfl) | (rw [show y = false by simpa using ‹¬ y = true›]; rfl)
    · obtain rfl : j = 13 := by omega
      have q4 := q2 rfl
      have hw := hw13.out.trans h1
      rw [hw, q4]
      clear q0 q1 q2 q4 hw hw13
      go_wp2_with fail
      have N0 : Nk0 w n s seed w.heap.size (w.heap.size + 1) ((w.alloc (.cells #[.int .i64 0, .int .i64 0, .int .i64 0, .int .u64 0, .slice none 0 0, .slice none 0 0, .slice none 0 0, .slice none 0 0] 27)).alloc (.cells #[.int .i64 (n : Nat), .int .i64 (s : Nat), .int .i64 0, .int .u64 seed, .slice none 0 0, .slice none 0 0, .slice none 0 0, .slice none 0 0] 27)) := ⟨((Below.refl _ _).alloc (Nat.le_refl _) _).alloc (by simp) _, by omega, heap_alloc (heap_new rfl) _, heap_new (by simp)⟩
      refine wp_seen (Nk0 w n s seed w.heap.size (w.heap.size + 1)) N0 ?_
      clear N0
      generalize w.heap.size + 1 = p
      generalize w.heap.size = T
      intro W M
      refine wp_loop_rounds 5 ?_
      rw [rounds_succ]
      have y0 : W.cell? ⟨p, 4, none⟩ = some (.slice none 0 0) := cell_of M.2.2.2 4
      have z0 : W.frozen? ⟨p, 4, none⟩ = false := frozen_of M.2.2.2 4
      have lt0 := lt_of_heap M.2.2.2
      go_wp2_with fail
      rw [rounds_succ]
      refine wp_seen (Nk1 w n s seed T p W.heap.size) (M.step hn1) ?_
      generalize W.heap.size = g0
      clear y0 z0 lt0 M W
      intro W M
      have y0 : W.cell? ⟨p, 5, none⟩ = some (.slice none 0 0) := cell_of M.2.2.2.1 5
      have z0 : W.frozen? ⟨p, 5, none⟩ = false := frozen_of M.2.2.2.1 5
      have lt0 := lt_of_heap M.2.2.2.1
      go_wp2_with fail
      rw [rounds_succ]
      refine wp_seen (Nk2 w n s seed T p g0 W.heap.size) (M.step hn1) ?_
      generalize W.heap.size = g1
      clear y0 z0 lt0 M W
      intro W M
      have y0 : W.cell? ⟨p, 6, none⟩ = some (.slice none 0 0) := cell_of M.2.2.2.1 6
      have z0 : W.frozen? ⟨p, 6, none⟩ = false := frozen_of M.2.2.2.1 6
      have lt0 := lt_of_heap M.2.2.2.1
      go_wp2_with fail
      rw [rounds_succ]
      refine wp_seen (Nk3 w n s seed T p g0 g1 W.heap.size) (M.step hn1) ?_
      generalize W.heap.size = g2
      clear y0 z0 lt0 M W
      intro W M
      have y0 : W.cell? ⟨p, 7, none⟩ = some (.slice none 0 0) := cell_of M.2.2.2.1 7
      have z0 : W.frozen? ⟨p, 7, none⟩ = false := frozen_of M.2.2.2.1 7
      have lt0 := lt_of_heap M.2.2.2.1
      go_wp2_with fail
      rw [rounds_succ]
      refine wp_seen (Nk4 w n s seed T p g0 g1 g2 W.heap.size) (M.step hn1) ?_
      generalize W.heap.size = g3
      clear y0 z0 lt0 M W
      intro W M
      obtain ⟨b, ⟨hp, hT, ne⟩, ht, ho, ⟨l0, n0⟩, ⟨l1, o1, n1⟩, ⟨l2, o2, n2⟩, ⟨l3, o3, n3⟩⟩ := M
      have e0 : g0 ≠ T := fun e => by obtain ⟨cur, hc, _⟩ := n0; rw [e, ht] at hc; simp at hc
      have e1 : g1 ≠ T := fun e => by obtain ⟨cur, hc, _⟩ := n1; rw [e, ht] at hc; simp at hc
      have e2 : g2 ≠ T := fun e => by obtain ⟨cur, hc, _⟩ := n2; rw [e, ht] at hc; simp at hc
      have e3 : g3 ≠ T := fun e => by obtain ⟨cur, hc, _⟩ := n3; rw [e, ht] at hc; simp at hc
      have c0 : W.cell? ⟨p, 0, none⟩ = some (.int .i64 (n : Nat)) := cell_of ho 0
      have c1 : W.cell? ⟨p, 1, none⟩ = some (.int .i64 (s : Nat)) := cell_of ho 1
      have c2 : W.cell? ⟨p, 2, none⟩ = some (.int .i64 0) := cell_of ho 2
      have c3 : W.cell? ⟨p, 3, none⟩ = some (.int .u64 seed) := cell_of ho 3
      have c4 : W.cell? ⟨p, 4, none⟩ = some (.slice (some ⟨g0, 0, none⟩) n n) := cell_of ho 4
      have c5 : W.cell? ⟨p, 5, none⟩ = some (.slice (some ⟨g1, 0, none⟩) n n) := cell_of ho 5
      have c6 : W.cell? ⟨p, 6, none⟩ = some (.slice (some ⟨g2, 0, none⟩) n n) := cell_of ho 6
      have c7 : W.cell? ⟨p, 7, none⟩ = some (.slice (some ⟨g3, 0, none⟩) n n) := cell_of ho 7
      have d0 : W.cell? ⟨T, 0, none⟩ = some (.int .i64 0) := cell_of ht 0
      have d1 : W.cell? ⟨T, 1, none⟩ = some (.int .i64 0) := cell_of ht 1
      have d2 : W.cell? ⟨T, 2, none⟩ = some (.int .i64 0) := cell_of ht 2
      have d3 : W.cell? ⟨T, 3, none⟩ = some (.int .u64 0) := cell_of ht 3
      have d4 : W.cell? ⟨T, 4, none⟩ = some (.slice none 0 0) := cell_of ht 4
      have d5 : W.cell? ⟨T, 5, none⟩ = some (.slice none 0 0) := cell_of ht 5
      have d6 : W.cell? ⟨T, 6, none⟩ = some (.slice none 0 0) := cell_of ht 6
      have d7 : W.cell? ⟨T, 7, none⟩ = some (.slice none 0 0) := cell_of ht 7
      have f0 : W.frozen? ⟨T, 0, none⟩ = false := frozen_of ht 0
      have f1 : W.frozen? ⟨T, 1, none⟩ = false := frozen_of ht 1
      have f2 : W.frozen? ⟨T, 2, none⟩ = false := frozen_of ht 2
      have f3 : W.frozen? ⟨T, 3, none⟩ = false := frozen_of ht 3
      have f4 : W.frozen? ⟨T, 4, none⟩ = false := frozen_of ht 4
      have f5 : W.frozen? ⟨T, 5, none⟩ = false := frozen_of ht 5
      have f6 : W.frozen? ⟨T, 6, none⟩ = false := frozen_of ht 6
      have f7 : W.frozen? ⟨T, 7, none⟩ = false := frozen_of ht 7
      go_wp2_with fail
      refine post_seen (fun W' => Below w.heap.size w W' ∧ W'.heap[T]? = some (.cells #[.int .i64 (n : Nat), .int .i64 (s : Nat), .int .i64 0, .int .u64 seed, .slice (some ⟨g0, 0, none⟩) n n, .slice (some ⟨g1, 0, none⟩) n n, .slice (some ⟨g2, 0, none⟩) n n, .slice (some ⟨g3, 0, none⟩) n n] 27 (0, 0)) ∧ Nums W' .i64 3 g0 n n (fun _ => 0) ∧ Nums W' .i64 3 g1 n n (fun _ => 0) ∧ Nums W' .i64 3 g2 n n (fun _ => 0) ∧ Nums W' .i64 3 g3 n n (fun _ => 0)) ⟨(((((((b.setCell hT _).setCell hT _).setCell hT _).setCell hT _).setCell hT _).setCell hT _).setCell hT _).setCell hT _, heap_fill8 ht _ _ _ _ _ _ _ _, ((((((((n0.other e0 _).other e0 _).other e0 _).other e0 _).other e0 _).other e0 _).other e0 _).other e0 _), ((((((((n1.other e1 _).other e1 _).other e1 _).other e1 _).other e1 _).other e1 _).other e1 _).other e1 _), ((((((((n2.other e2 _).other e2 _).other e2 _).other e2 _).other e2 _).other e2 _).other e2 _).other e2 _), ((((((((n3.other e3 _).other e3 _).other e3 _).other e3 _).other e3 _).other e3 _).other e3 _).other e3 _)⟩ ?_
      clear c0 d0 f0 c1 d1 f1 c2 d2 f2 c3 d3 f3 c4 d4 f4 c5 d5 f5 c6 d6 f6 c7 d7 f7 n0 n1 n2 n3 ht ho b
      rintro W ⟨b, ho, n0, n1, n2, n3⟩
      have c0 : W.cell? ⟨T, 0, none⟩ = some (.int .i64 (n : Nat)) := cell_of ho 0
      have c1 : W.cell? ⟨T, 1, none⟩ = some (.int .i64 (s : Nat)) := cell_of ho 1
      have c2 : W.cell? ⟨T, 2, none⟩ = some (.int .i64 0) := cell_of ho 2
      have c3 : W.cell? ⟨T, 3, none⟩ = some (.int .u64 seed) := cell_of ho 3
      have c4 : W.cell? ⟨T, 4, none⟩ = some (.slice (some ⟨g0, 0, none⟩) n n) := cell_of ho 4
      have c5 : W.cell? ⟨T, 5, none⟩ = some (.slice (some ⟨g1, 0, none⟩) n n) := cell_of ho 5
      have c6 : W.cell? ⟨T, 6, none⟩ = some (.slice (some ⟨g2, 0, none⟩) n n) := cell_of ho 6
      have c7 : W.cell? ⟨T, 7, none⟩ = some (.slice (some ⟨g3, 0, none⟩) n n) := cell_of ho 7
      refine bodyPost_ret (v := .tuple #[.agg #[.int .i64 (n : Nat), .int .i64 (s : Nat), .int .i64 0, .int .u64 seed, .slice (some ⟨g0, 0, none⟩) n n, .slice (some ⟨g1, 0, none⟩) n n, .slice (some ⟨g2, 0, none⟩) n n, .slice (some ⟨g3, 0, none⟩) n n], .int .i64 0]) (by simp [results, Try.results8, go_sem, c0, c1, c2, c3, c4, c5, c6, c7]) rfl ⟨fun r => if r = 0 then g0 else if r = 1 then g1 else if r = 2 then g2 else g3, fun _ => n, rfl, b, ?_, ?_, ?_⟩
      · intro r hr
        dsimp only
        split
        · exact l0
        · split
          · exact l1
          · split
            · exact l2
            · exact l3
      · intro r q hr hq hne
        have h1 : r = 0 ∨ r = 1 ∨ r = 2 ∨ r = 3 := by omega
        have h2 : q = 0 ∨ q = 1 ∨ q = 2 ∨ q = 3 := by omega
        rcases h1 with rfl | rfl | rfl | rfl <;> rcases h2 with rfl | rfl | rfl | rfl <;> simp <;> omega
      · intro r hr
        have : r = 0 ∨ r = 1 ∨ r = 2 ∨ r = 3 := by omega
        rcases this with rfl | rfl | rfl | rfl
        · exact n0
        · exact n1
        · exact n2
        · exact n3
set_option maxRecDepth 100000 in
set_option maxHeartbeats 4000000 in
theorem refNew_no (n s : Int) (seed : Int) (hn : 0 ≤ n → n ≤ 65536 → widthB n.toNat = true → s < 0 ∨ 16777216 < s) (w : World) : Calls Try.prog 8 #[.int .i64 n, .int .u64 seed, .int .i64 s] w fun e w' => e = .returned (.tuple #[.agg #[.int .i64 0, .int .i64 0, .int .i64 0, .int .u64 0, .slice none 0 0, .slice none 0 0, .slice none 0 0, .slice none 0 0], .int .i64 2]) ∧ Below w.heap.size w w' := by
  have hw13 : pwTo 13 n = true → s < 0 ∨ 16777216 < s := by
    intro h
    by_cases h0 : 0 ≤ n
    · obtain ⟨m, rfl⟩ := Int.eq_ofNat_of_zero_le h0
      rw [pwTo_width] at h
      exact hn h0 (by obtain ⟨e, p1, p2, p3⟩ := width_pow h; have : 2 ^ e ≤ 2 ^ 16 := Nat.pow_le_pow_right (by omega) p2; omega) h
    · rw [pwTo_neg (by omega)] at h; cases h
  have H13 := Lib.hid hw13
  clear hn hw13
  go_enter Try.func8, Try.ntmps8
  go_wp2_with fail
  go_loopw [8, 9] (PwRel w n) (fun _ x _ => 131073 - (intOf x).toNat)
  case atStart => exact ⟨0, by omega, rfl, rfl, rfl⟩
  case round =>
    obtain ⟨j, hj, rfl, rfl, rfl⟩ := hrel
    obtain ⟨q0, q1, q2⟩ := pow_small hj
    by_cases hj3 : j < 13
    · have q3 := q1 hj3
      have e0 : pwTo (j + 1) n = (pwTo j n || (((16 * 2 ^ j : Nat) : Int) == n)) := rfl
      have e1 : ((16 * 2 ^ (j + 1) : Nat) : Int) = ((16 * 2 ^ j : Nat) : Int) * 2 := by rw [Nat.pow_succ]; omega
      have E0 := Lib.hid e0
      have E1 := Lib.hid e1
      have hpos : 16 ≤ 16 * 2 ^ j := by have : 0 < 2 ^ j := Nat.pow_pos (by omega); omega
      clear e0 e1 q1 q2
      generalize pwTo j n = y at *
      generalize 16 * 2 ^ j = x at *
      go_wp2_with fail
      all_goals
        refine ⟨⟨j + 1, by omega, by rw [E1.out], ?_, rfl⟩, by simp [intOf]; omega⟩
        rw [E0.out]; first | (rw [‹y = true›]; rfl) | (rw [show y = false by simpa using ‹¬ y = true›]; rfl)
    · obtain rfl : j = 13 := by omega
      have q4 := q2 rfl
      rw [q4]
      clear q0 q1 q2 q4
      have ht : (w.alloc (.cells #[.int .i64 0, .int .i64 0, .int .i64 0, .int .u64 0, .slice none 0 0, .slice none 0 0, .slice none 0 0, .slice none 0 0] 27)).heap[w.heap.size]? = some (.cells #[.int .i64 0, .int .i64 0, .int .i64 0, .int .u64 0, .slice none 0 0, .slice none 0 0, .slice none 0 0, .slice none 0 0] 27 (0, 0)) := heap_new rfl
      have d0 : (w.alloc (.cells #[.int .i64 0, .int .i64 0, .int .i64 0, .int .u64 0, .slice none 0 0, .slice none 0 0, .slice none 0 0, .slice none 0 0] 27)).cell? ⟨w.heap.size, 0, none⟩ = some (.int .i64 0) := cell_of ht 0
      have d1 : (w.alloc (.cells #[.int .i64 0, .int .i64 0, .int .i64 0, .int .u64 0, .slice none 0 0, .slice none 0 0, .slice none 0 0, .slice none 0 0] 27)).cell? ⟨w.heap.size, 1, none⟩ = some (.int .i64 0) := cell_of ht 1
      have d2 : (w.alloc (.cells #[.int .i64 0, .int .i64 0, .int .i64 0, .int .u64 0, .slice none 0 0, .slice none 0 0, .slice none 0 0, .slice none 0 0] 27)).cell? ⟨w.heap.size, 2, none⟩ = some (.int .i64 0) := cell_of ht 2
      have d3 : (w.alloc (.cells #[.int .i64 0, .int .i64 0, .int .i64 0, .int .u64 0, .slice none 0 0, .slice none 0 0, .slice none 0 0, .slice none 0 0] 27)).cell? ⟨w.heap.size, 3, none⟩ = some (.int .u64 0) := cell_of ht 3
      have d4 : (w.alloc (.cells #[.int .i64 0, .int .i64 0, .int .i64 0, .int .u64 0, .slice none 0 0, .slice none 0 0, .slice none 0 0, .slice none 0 0] 27)).cell? ⟨w.heap.size, 4, none⟩ = some (.slice none 0 0) := cell_of ht 4
      have d5 : (w.alloc (.cells #[.int .i64 0, .int .i64 0, .int .i64 0, .int .u64 0, .slice none 0 0, .slice none 0 0, .slice none 0 0, .slice none 0 0] 27)).cell? ⟨w.heap.size, 5, none⟩ = some (.slice none 0 0) := cell_of ht 5
      have d6 : (w.alloc (.cells #[.int .i64 0, .int .i64 0, .int .i64 0, .int .u64 0, .slice none 0 0, .slice none 0 0, .slice none 0 0, .slice none 0 0] 27)).cell? ⟨w.heap.size, 6, none⟩ = some (.slice none 0 0) := cell_of ht 6
      have d7 : (w.alloc (.cells #[.int .i64 0, .int .i64 0, .int .i64 0, .int .u64 0, .slice none 0 0, .slice none 0 0, .slice none 0 0, .slice none 0 0] 27)).cell? ⟨w.heap.size, 7, none⟩ = some (.slice none 0 0) := cell_of ht 7
      have f0 : (w.alloc (.cells #[.int .i64 0, .int .i64 0, .int .i64 0, .int .u64 0, .slice none 0 0, .slice none 0 0, .slice none 0 0, .slice none 0 0] 27)).frozen? ⟨w.heap.size, 0, none⟩ = false := frozen_of ht 0
      have f1 : (w.alloc (.cells #[.int .i64 0, .int .i64 0, .int .i64 0, .int .u64 0, .slice none 0 0, .slice none 0 0, .slice none 0 0, .slice none 0 0] 27)).frozen? ⟨w.heap.size, 1, none⟩ = false := frozen_of ht 1
      have f2 : (w.alloc (.cells #[.int .i64 0, .int .i64 0, .int .i64 0, .int .u64 0, .slice none 0 0, .slice none 0 0, .slice none 0 0, .slice none 0 0] 27)).frozen? ⟨w.heap.size, 2, none⟩ = false := frozen_of ht 2
      have f3 : (w.alloc (.cells #[.int .i64 0, .int .i64 0, .int .i64 0, .int .u64 0, .slice none 0 0, .slice none 0 0, .slice none 0 0, .slice none 0 0] 27)).frozen? ⟨w.heap.size, 3, none⟩ = false := frozen_of ht 3
      have f4 : (w.alloc (.cells #[.int .i64 0, .int .i64 0, .int .i64 0, .int .u64 0, .slice none 0 0, .slice none 0 0, .slice none 0 0, .slice none 0 0] 27)).frozen? ⟨w.heap.size, 4, none⟩ = false := frozen_of ht 4
      have f5 : (w.alloc (.cells #[.int .i64 0, .int .i64 0, .int .i64 0, .int .u64 0, .slice none 0 0, .slice none 0 0, .slice none 0 0, .slice none 0 0] 27)).frozen? ⟨w.heap.size, 5, none⟩ = false := frozen_of ht 5
      have f6 : (w.alloc (.cells #[.int .i64 0, .int .i64 0, .int .i64 0, .int .u64 0, .slice none 0 0, .slice none 0 0, .slice none 0 0, .slice none 0 0] 27)).frozen? ⟨w.heap.size, 6, none⟩ = false := frozen_of ht 6
      have f7 : (w.alloc (.cells #[.int .i64 0, .int .i64 0, .int .i64 0, .int .u64 0, .slice none 0 0, .slice none 0 0, .slice none 0 0, .slice none 0 0] 27)).frozen? ⟨w.heap.size, 7, none⟩ = false := frozen_of ht 7
      have hb : Below w.heap.size w (w.alloc (.cells #[.int .i64 0, .int .i64 0, .int .i64 0, .int .u64 0, .slice none 0 0, .slice none 0 0, .slice none 0 0, .slice none 0 0] 27)) := (Below.refl _ _).alloc (Nat.le_refl _) _
      have hT := Nat.le_refl w.heap.size
      generalize w.alloc (.cells #[.int .i64 0, .int .i64 0, .int .i64 0, .int .u64 0, .slice none 0 0, .slice none 0 0, .slice none 0 0, .slice none 0 0] 27) = V at *
      generalize hTw : w.heap.size = T at *
      cases h13 : pwTo 13 n
      · go_wp2_with fail
        all_goals
          refine post_seen (fun W' => Below T w W' ∧ W'.heap[T]? = some (.cells #[.int .i64 0, .int .i64 0, .int .i64 0, .int .u64 0, .slice none 0 0, .slice none 0 0, .slice none 0 0, .slice none 0 0] 27 (0, 0))) ⟨(((((((hb.setCell hT _).setCell hT _).setCell hT _).setCell hT _).setCell hT _).setCell hT _).setCell hT _).setCell hT _, heap_fill8 ht _ _ _ _ _ _ _ _⟩ ?_
          clear d0 f0 d1 f1 d2 f2 d3 f3 d4 f4 d5 f5 d6 f6 d7 f7 ht hb
          rintro W ⟨b, ho⟩
          have c0 : W.cell? ⟨T, 0, none⟩ = some (.int .i64 0) := cell_of ho 0
          have c1 : W.cell? ⟨T, 1, none⟩ = some (.int .i64 0) := cell_of ho 1
          have c2 : W.cell? ⟨T, 2, none⟩ = some (.int .i64 0) := cell_of ho 2
          have c3 : W.cell? ⟨T, 3, none⟩ = some (.int .u64 0) := cell_of ho 3
          have c4 : W.cell? ⟨T, 4, none⟩ = some (.slice none 0 0) := cell_of ho 4
          have c5 : W.cell? ⟨T, 5, none⟩ = some (.slice none 0 0) := cell_of ho 5
          have c6 : W.cell? ⟨T, 6, none⟩ = some (.slice none 0 0) := cell_of ho 6
          have c7 : W.cell? ⟨T, 7, none⟩ = some (.slice none 0 0) := cell_of ho 7
          exact bodyPost_ret (v := .tuple #[.agg #[.int .i64 0, .int .i64 0, .int .i64 0, .int .u64 0, .slice none 0 0, .slice none 0 0, .slice none 0 0, .slice none 0 0], .int .i64 2]) (by simp [results, Try.results8, go_sem, c0, c1, c2, c3, c4, c5, c6, c7]) rfl ⟨rfl, hTw ▸ b⟩
      · have hs := H13.out h13
        go_wp2_with fail
        all_goals first | omega | skip
        all_goals
          refine post_seen (fun W' => Below T w W' ∧ W'.heap[T]? = some (.cells #[.int .i64 0, .int .i64 0, .int .i64 0, .int .u64 0, .slice none 0 0, .slice none 0 0, .slice none 0 0, .slice none 0 0] 27 (0, 0))) ⟨(((((((hb.setCell hT _).setCell hT _).setCell hT _).setCell hT _).setCell hT _).setCell hT _).setCell hT _).setCell hT _, heap_fill8 ht _ _ _ _ _ _ _ _⟩ ?_
          clear d0 f0 d1 f1 d2 f2 d3 f3 d4 f4 d5 f5 d6 f6 d7 f7 ht hb
          rintro W ⟨b, ho⟩
          have c0 : W.cell? ⟨T, 0, none⟩ = some (.int .i64 0) := cell_of ho 0
          have c1 : W.cell? ⟨T, 1, none⟩ = some (.int .i64 0) := cell_of ho 1
          have c2 : W.cell? ⟨T, 2, none⟩ = some (.int .i64 0) := cell_of ho 2
          have c3 : W.cell? ⟨T, 3, none⟩ = some (.int .u64 0) := cell_of ho 3
          have c4 : W.cell? ⟨T, 4, none⟩ = some (.slice none 0 0) := cell_of ho 4
          have c5 : W.cell? ⟨T, 5, none⟩ = some (.slice none 0 0) := cell_of ho 5
          have c6 : W.cell? ⟨T, 6, none⟩ = some (.slice none 0 0) := cell_of ho 6
          have c7 : W.cell? ⟨T, 7, none⟩ = some (.slice none 0 0) := cell_of ho 7
          exact bodyPost_ret (v := .tuple #[.agg #[.int .i64 0, .int .i64 0, .int .i64 0, .int .u64 0, .slice none 0 0, .slice none 0 0, .slice none 0 0, .slice none 0 0], .int .i64 2]) (by simp [results, Try.results8, go_sem, c0, c1, c2, c3, c4, c5, c6, c7]) rfl ⟨rfl, hTw ▸ b⟩
end Go.Proofs.Ytffniljefbpoiaa
