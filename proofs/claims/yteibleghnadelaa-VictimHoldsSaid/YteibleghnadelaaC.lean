/-
  The contracts of slices.Concat and Clone at entries.
-/
import Derived.Test.YteibleghnadelaaB
namespace Go.Proofs.Yteibleghnadelaa
open Go.ChangeShapes Go.WideShapes Go.ChangeAt Go.RowKit
set_option linter.unusedVariables false

theorem run_equalIn_slice_nil {P : Program} (w : World) (d : Nat) (t e : TypeId) (s : Option Addr) (n c : Nat) (h : P.underlying t = some (.slice e)) :
    (Op.equalIn (d + 1) t (.slice s n c) (.slice none 0 0)).run P w = .ok s.isNone w := by
  cases s <;> simp [Op.equalIn, run_underlying h]
theorem run_eql_slice_nil (w : World) (s : Option Addr) (n c : Nat) : (binOp .eql 22 (.slice s n c) (.slice none 0 0)).run Try.prog w = .ok (.bool s.isNone) w := by
  simp only [binOp]
  simp [show Op.equal 22 (.slice s n c) (.slice none 0 0) = Op.equalIn (9999 + 1) 22 (.slice s n c) (.slice none 0 0) from rfl, run_equalIn_slice_nil w 9999 22 34 s n c Try.underlying22]
theorem clone_nil (w : World) : Calls Try.prog 33 #[.slice none 0 0] w fun e w' => e = .returned (.slice none 0 0) ∧ w = w' := by
  have hq := run_eql_slice_nil w none 0 0
  go_enter Try.func33, Try.ntmps33
  go_wp2_with fail
  go_ret
  exact ⟨rfl, rfl⟩
theorem clone_is {s : Option Addr} {n c : Nat} {L : List (Int × Int)} {w : World} (hE : Ents w s L) (hL : L.length = n) (h0 : 0 < n) (h1 : n ≤ 1000) :
    Calls Try.prog 33 #[.slice s n c] w fun e w' => ∃ g c2, e = .returned (.slice (some ⟨g, 0, none⟩) n c2) ∧ w'.ownsRow w.heap.size 34 2 (.slice (some ⟨g, 0, none⟩) n c2) n (entsL L) ∧ Below w.heap.size w w' := by
  have h := hE (by omega)
  obtain ⟨b, off, rfl, hlt, _⟩ := h
  have hq := run_eql_slice_nil w (some ⟨b, off, none⟩) n c
  go_enter Try.func33, Try.ntmps33
  have b1 : Below w.heap.size w (w.alloc (.cells #[] 34)) := (Below.refl _ _).alloc (Nat.le_refl _) _
  have o1 : (w.alloc (.cells #[] 34)).ownsRow w.heap.size 34 2 (.slice (some ⟨w.heap.size, 0, none⟩) 0 0) 0 (entsL []) := ⟨rfl, .inr ⟨w.heap.size, 0, #[], rfl, Nat.le_refl _, heap_new rfl, Nat.le_refl _, by decide, rfl, rfl⟩⟩
  obtain ⟨v2, w2, r2, o2, g2, n2'⟩ := app_ents (c := c) o1 hL (hE.below b1 (Nat.le_refl _)) b1.size (by omega) 22
  have hne : v2 ≠ .slice none 0 0 := fun q => by have := (n2'.1 q).2; omega
  obtain ⟨A, c2, rfl⟩ := own_shape o2
  obtain ⟨g, rfl⟩ : ∃ g, A = some ⟨g, 0, none⟩ := by
    rcases o2.2 with ⟨q, _⟩ | ⟨g, c3, cur, q, _⟩
    · exact absurd q hne
    · simp at q; exact ⟨g, q.1⟩
  rw [Nat.zero_add] at r2 o2
  have b2 := Below.grown b1 g2 (own_block o1) b1.size
  go_wp2_with (at_builtin; refine Lib.wpList_append_run _ rfl _ _ _ _ rfl _ _ rfl rfl _ _ r2 ?_)
  go_ret
  exact ⟨g, c2, rfl, o2, b2⟩
theorem concat_is {s1 s2 : Option Addr} {n1 c1 n2 c2 b : Nat} {L1 L2 : List (Int × Int)} {w : World} (hb : w.heap[b]? = some (.cells #[.slice s1 n1 c1, .slice s2 n2 c2] 22 (0, 0))) (hE1 : Ents w s1 L1) (hE2 : Ents w s2 L2) (h1 : L1.length = n1) (h2 : L2.length = n2) (h3 : n1 + n2 ≤ 500) :
    Calls Try.prog 31 #[.slice (some ⟨b, 0, none⟩) 2 2] w fun e w' => ∃ v, e = .returned v ∧ w'.ownsRow w.heap.size 34 2 v (n1 + n2) (entsL (L1 ++ L2)) ∧ (n1 + n2 = 0 → v = .slice none 0 0) ∧ Below w.heap.size w w' := by
  have d0 : w.cell? ⟨b, 0, none⟩ = some (.slice s1 n1 c1) := cell_of hb 0
  have d1 : w.cell? ⟨b, 1, none⟩ = some (.slice s2 n2 c2) := cell_of hb 1
  have hn : ¬ ((n1 : Int) + (n2 : Int) < 0) := by omega
  have hG : ∀ (N : Int), N = ((n1 + n2 : Nat) : Int) → Calls Try.prog 35 #[.slice none 0 0, .int .i64 N] w fun e w' => ∃ v, e = .returned v ∧ w'.ownsRow w.heap.size 34 2 v 0 (entsL []) ∧ Below w.heap.size w w' ∧ (n1 + n2 = 0 → v = .slice none 0 0) := fun N hN => by
    subst hN
    rcases Nat.eq_zero_or_pos (n1 + n2) with q | q
    · rw [q]
      exact (grow_nil w).mono (by rintro e w' ⟨rfl, rfl⟩; exact ⟨_, rfl, World.ownsRow_nil _ _ _ _, Below.refl _ _, fun _ => rfl⟩)
    · exact (grow_new (n1 + n2) w q (by omega)).mono (by rintro e w' ⟨g, c, rfl, _, o, b⟩; exact ⟨_, rfl, o, b, fun q => by omega⟩)
  go_enter Try.func31, Try.ntmps31
  go_wp2_with fail
  refine wp_loop_rounds 3 ?_
  rw [rounds_succ]
  go_wp2_with fail
  rw [rounds_succ]
  go_wp2_with fail
  rw [rounds_succ]
  go_wp2_with (first | (go_at_call 35; refine (hG _ (by omega)).mono ?_; rintro e w1 ⟨v1, rfl, o1, b1, z1⟩; obtain ⟨v2, w2, r2, o2, g2, n2'⟩ := app_ents (c := c1) o1 h1 (hE1.below b1 (Nat.le_refl _)) b1.size (by omega) 22; have b2 := Below.grown b1 g2 (own_block o1) b1.size; obtain ⟨v3, w3, r3, o3, g3, n3'⟩ := app_ents (c := c2) o2 h2 (hE2.below b2 (Nat.le_refl _)) b2.size (by omega) 22; have b3 := Below.grown b2 g3 (own_block o2) b2.size; have e0 : w1.cell? ⟨b, 0, none⟩ = some (.slice s1 n1 c1) := cell_of ((b1.block b (lt_of_heap hb)).trans hb) 0; have e1 : w2.cell? ⟨b, 1, none⟩ = some (.slice s2 n2 c2) := cell_of ((b2.block b (lt_of_heap hb)).trans hb) 1))
  refine wp_loop_rounds 3 ?_
  rw [rounds_succ]
  go_wp2_with (at_builtin; refine Lib.wpList_append_run _ rfl _ _ _ _ rfl _ _ rfl rfl _ _ r2 ?_)
  rw [rounds_succ]
  go_wp2_with (at_builtin; refine Lib.wpList_append_run _ rfl _ _ _ _ rfl _ _ rfl rfl _ _ r3 ?_)
  rw [rounds_succ]
  go_wp2_with fail
  go_ret
  refine ⟨_, rfl, by simpa using o3, fun q => n3'.2 ⟨n2'.2 ⟨z1 q, by omega⟩, by omega⟩, b3⟩
end Go.Proofs.Yteibleghnadelaa
