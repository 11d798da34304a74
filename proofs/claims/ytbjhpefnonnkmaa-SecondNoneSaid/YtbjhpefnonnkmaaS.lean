/-
  The contracts of the methods at nil and zero caches, and the walk of SecondNone.
-/
import Derived.Test.YtbjhpefnonnkmaaQ
namespace Go.Proofs.Ytbjhpefnonnkmaa
open Go.ChangeShapes Go.WideShapes Go.ChangeAt Go.RowKit
set_option linter.unusedVariables false

/-- A nil or a zero cache. -/
def Nothing (w : World) (v : Option Addr) : Prop := v = none ∨ ∃ p, v = some ⟨p, 0, none⟩ ∧ w.heap[p]? = some (.cells #[.slice none 0 0, .int .i64 0, .map none] 57 (0, 0))
theorem Nothing.below {w w' : World} {v : Option Addr} (h : Nothing w v) (k : Below w.heap.size w w') : Nothing w' v :=
  h.imp id fun ⟨p, q, hp⟩ => ⟨p, q, (k.block p (lt_of_heap hp)).trans hp⟩
theorem zero_no {w : World} {v : Option Addr} (h : Nothing w v) : Calls Try.prog 23 #[.pointer v] w fun e w' => e = .returned (.bool true) ∧ w = w' := by
  rcases h with rfl | ⟨p, rfl, hp⟩
  · exact zero_nil w
  · exact zero_zero p w hp
theorem use_no {w : World} {v : Option Addr} (k : Int) (h : Nothing w v) : Calls Try.prog 11 #[.pointer v, .int .u32 k] w fun e w' => e = .returned (.tuple #[.agg #[.bool false, .bool false, .int .u32 0], .int .i64 1]) ∧ Below w.heap.size w w' := by
  have h1 := h.below ((Below.refl _ _).alloc (Nat.le_refl _) (.cells #[.bool false, .bool false, .int .u32 0] 37))
  go_enter Try.func11, Try.ntmps11
  go_wp2_with (first | (go_at_call 23; refine (zero_no h1).mono ?_; rintro e w' ⟨rfl, rfl⟩))
  refine post_seen (fun W => Below w.heap.size w W ∧ W.heap[w.heap.size]? = some (.cells #[.bool false, .bool false, .int .u32 0] 37 (0, 0))) (by first | exact ⟨(Below.refl _ _).alloc (Nat.le_refl _) _, heap_new rfl⟩ | exact ⟨((((Below.refl _ _).alloc (Nat.le_refl _) _).setCell (Nat.le_refl _) _).setCell (Nat.le_refl _) _).setCell (Nat.le_refl _) _, heap_set (heap_set (heap_set (heap_new rfl) _) _) _⟩) ?_
  rintro W ⟨hb, hB⟩
  have r0 : W.cell? ⟨w.heap.size, 0, none⟩ = some (.bool false) := cell_of hB 0
  have r1 : W.cell? ⟨w.heap.size, 1, none⟩ = some (.bool false) := cell_of hB 1
  have r2 : W.cell? ⟨w.heap.size, 2, none⟩ = some (.int .u32 0) := cell_of hB 2
  exact bodyPost_ret (v := .tuple #[.agg #[.bool false, .bool false, .int .u32 0], .int .i64 1]) (by simp [results, Try.results11, go_sem, r0, r1, r2]) rfl ⟨rfl, hb⟩
theorem drop_no {w : World} {v : Option Addr} (k : Int) (h : Nothing w v) : Calls Try.prog 12 #[.pointer v, .int .u32 k] w fun e w' => e = .returned (.tuple #[.bool false, .int .i64 1]) ∧ w = w' := by
  go_enter Try.func12, Try.ntmps12
  go_wp2_with (first | (go_at_call 23; refine (zero_no h).mono ?_; rintro e w' ⟨rfl, rfl⟩))
  go_ret2
  exact ⟨rfl, rfl⟩
theorem ring_no {w : World} {v : Option Addr} (h : Nothing w v) : Calls Try.prog 10 #[.pointer v] w fun e w' => e = .returned (.tuple #[.slice none 0 0, .slice none 0 0]) ∧ w = w' := by
  go_enter Try.func10, Try.ntmps10
  go_wp2_with (first | (go_at_call 23; refine (zero_no h).mono ?_; rintro e w' ⟨rfl, rfl⟩))
  go_ret2
  exact ⟨rfl, rfl⟩
theorem has_no {w : World} {v : Option Addr} (k : Int) (h : Nothing w v) : Calls Try.prog 14 #[.pointer v, .int .u32 k] w fun e w' => e = .returned (.bool false) ∧ w = w' := by
  go_enter Try.func14, Try.ntmps14
  go_wp2_with (first | (go_at_call 23; refine (zero_no h).mono ?_; rintro e w' ⟨rfl, rfl⟩))
  go_ret
  exact ⟨rfl, rfl⟩
theorem len_no {w : World} {v : Option Addr} (h : Nothing w v) : Calls Try.prog 13 #[.pointer v] w fun e w' => e = .returned (.int .i64 0) ∧ w = w' := by
  go_enter Try.func13, Try.ntmps13
  go_wp2_with (first | (go_at_call 23; refine (zero_no h).mono ?_; rintro e w' ⟨rfl, rfl⟩))
  go_ret
  exact ⟨rfl, rfl⟩
theorem size_no {w : World} {v : Option Addr} (h : Nothing w v) : Calls Try.prog 18 #[.pointer v] w fun e w' => e = .returned (.int .i64 0) ∧ w = w' := by
  go_enter Try.func18, Try.ntmps18
  go_wp2_with (first | (go_at_call 23; refine (zero_no h).mono ?_; rintro e w' ⟨rfl, rfl⟩))
  go_ret
  exact ⟨rfl, rfl⟩
theorem hand_no {w : World} {v : Option Addr} (h : Nothing w v) : Calls Try.prog 19 #[.pointer v] w fun e w' => e = .returned (.int .i64 0) ∧ w = w' := by
  go_enter Try.func19, Try.ntmps19
  go_wp2_with (first | (go_at_call 23; refine (zero_no h).mono ?_; rintro e w' ⟨rfl, rfl⟩))
  go_ret
  exact ⟨rfl, rfl⟩
theorem copy_no {w : World} {v : Option Addr} (h : Nothing w v) : Calls Try.prog 20 #[.pointer v] w fun e w' => e = .returned (.pointer none) ∧ w = w' := by
  go_enter Try.func20, Try.ntmps20
  go_wp2_with (first | (go_at_call 23; refine (zero_no h).mono ?_; rintro e w' ⟨rfl, rfl⟩))
  go_ret
  exact ⟨rfl, rfl⟩
/-- What the loop sees. -/
structure Two2 (w : World) (q s : Nat) (W : World) : Prop where
  bel : Below w.heap.size w W
  z : W.heap[q]? = some (.cells #[.slice none 0 0, .int .i64 0, .map none] 57 (0, 0))
  s : W.heap[s]? = some (.cells #[.pointer none, .pointer (some ⟨q, 0, none⟩)] 24 (0, 0))
theorem Two2.below {w W W' : World} {q s : Nat} (h : Two2 w q s W) (k : Below W.heap.size W W') : Two2 w q s W' :=
  ⟨h.bel.trans (k.mono h.bel.size), (k.block _ (lt_of_heap h.z)).trans h.z, (k.block _ (lt_of_heap h.s)).trans h.s⟩
set_option maxRecDepth 100000 in
set_option maxHeartbeats 4000000 in
theorem secondNone_walk (k : Int) (w0 : (Lit.int .u32 k).wf = true) (w : World) :
    Calls Try.prog 7 #[.int .u32 k] w fun e w' => e = .returned (.bool true) ∧ Below w.heap.size w w' := by
  clear w0
  have t0 : Two2 w w.heap.size (w.heap.size + 1) ((w.alloc (.cells #[.slice none 0 0, .int .i64 0, .map none] 57)).alloc (.cells #[.pointer none, .pointer (some ⟨w.heap.size, 0, none⟩)] 24)) :=
    ⟨((Below.refl _ _).alloc (Nat.le_refl _) _).alloc (by simp) _, heap_alloc (heap_new rfl) _, heap_new (by simp)⟩
  go_enter Try.func7, Try.ntmps7
  go_wp2_with fail
  go_loopw [17] (fun x wr => ∃ j : Nat, j ≤ 2 ∧ x = .int .i64 (j : Nat) ∧ Two2 w w.heap.size (w.heap.size + 1) wr) (fun x _ => 3 - (intOf x).toNat)
  case atStart => exact ⟨0, by omega, rfl, t0⟩
  case round =>
    obtain ⟨j, hj, rfl, t⟩ := hrel
    clear t0
    by_cases hj2 : j < 2
    · obtain ⟨v, hc, hN⟩ : ∃ v, wr.cell? ⟨w.heap.size + 1, j, none⟩ = some (.pointer v) ∧ ∀ W, Two2 w w.heap.size (w.heap.size + 1) W → Nothing W v := by
        have : j = 0 ∨ j = 1 := by omega
        rcases this with rfl | rfl
        · exact ⟨none, cell_of t.s 0, fun W _ => .inl rfl⟩
        · exact ⟨some ⟨w.heap.size, 0, none⟩, cell_of t.s 1, fun W q => .inr ⟨_, rfl, q.z⟩⟩
      have e1 : wrap64 ((j : Int) + 1) = (j : Int) + 1 := wrap_in (by omega)
      go_wp2_with (first | (go_at_call 11; refine (use_no k (hN _ t)).mono ?_; rintro e w1 ⟨rfl, b1⟩; have t1 := t.below b1; have t2 := t1.below ((Below.refl _ _).alloc (Nat.le_refl _) (.cells #[.bool false, .bool false, .int .u32 0] 37))) | (go_at_call 12; refine (drop_no k (hN _ t2)).mono ?_; rintro e w' ⟨rfl, rfl⟩) | (go_at_call 10; refine (ring_no (hN _ t2)).mono ?_; rintro e w' ⟨rfl, rfl⟩) | (go_at_call 14; refine (has_no k (hN _ t2)).mono ?_; rintro e w' ⟨rfl, rfl⟩) | (go_at_call 13; refine (len_no (hN _ t2)).mono ?_; rintro e w' ⟨rfl, rfl⟩) | (go_at_call 18; refine (size_no (hN _ t2)).mono ?_; rintro e w' ⟨rfl, rfl⟩) | (go_at_call 19; refine (hand_no (hN _ t2)).mono ?_; rintro e w' ⟨rfl, rfl⟩) | (go_at_call 20; refine (copy_no (hN _ t2)).mono ?_; rintro e w' ⟨rfl, rfl⟩))
      go_roundw
      case rel => exact ⟨j + 1, by omega, by go_num, t2⟩
      all_goals (simp [intOf]; omega)
    · go_wp2_with (first | (go_at_call 8; refine (known_any _).mono ?_; rintro e w4 ⟨rfl, b5⟩))
      go_ret
      exact ⟨rfl, t.bel.trans (b5.mono t.bel.size)⟩
end Go.Proofs.Ytbjhpefnonnkmaa
