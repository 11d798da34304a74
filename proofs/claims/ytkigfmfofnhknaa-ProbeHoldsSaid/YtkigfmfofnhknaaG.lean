/-
  The examples of the chapter on probe sequences, as the law's own function 'known' asks them: it returns true, and writes nothing that was there.
-/
import Derived.Test.YtkigfmfofnhknaaF
namespace Go.Proofs.Ytkigfmfofnhknaa
open Go.ChangeShapes Go.WideShapes Go.ChangeAt Go.RowKit Go.Shelf
set_option linter.unusedVariables false

theorem lawAt_lit (p g i x no : Int) (b : Bool) (h : decide (atOf p g i = x ∧ errOf g i = no) = b) (p0 : 0 ≤ p) (p1 : p < 18446744073709551616) (b0 : -9223372036854775808 ≤ g) (b1 : g ≤ 9223372036854775807) (w : World) :
    Calls Try.prog 11 #[.int .u64 p, .int .i64 g, .int .i64 i, .int .i64 x, .int .i64 no] w fun e w' => e = .returned (.bool b) ∧ w = w' := h ▸ lawAt_any p g i x no p0 p1 b0 b1 w
theorem lawIndex_lit (p g i x no : Int) (b : Bool) (h : decide (indexOf p g i = x ∧ errOf g i = no) = b) (p0 : 0 ≤ p) (p1 : p < 18446744073709551616) (b0 : -9223372036854775808 ≤ g) (b1 : g ≤ 9223372036854775807) (w : World) :
    Calls Try.prog 16 #[.int .u64 p, .int .i64 g, .int .i64 i, .int .i64 x, .int .i64 no] w fun e w' => e = .returned (.bool b) ∧ Below w.heap.size w w' := h ▸ lawIndex_any p g i x no p0 p1 b0 b1 w
theorem valid_lit (g : Int) (b : Bool) (h : validB g = b) (b0 : -9223372036854775808 ≤ g) (b1 : g ≤ 9223372036854775807) (w : World) :
    Calls Try.prog 9 #[.int .i64 g] w fun e w' => e = .returned (.bool b) ∧ w = w' := h ▸ valid_any g b0 b1 w
theorem all_lit (p g : Int) (p0 : 0 ≤ p) (p1 : p < 18446744073709551616) (b0 : -9223372036854775808 ≤ g) (b1 : g ≤ 9223372036854775807) (vw : Value) (ws : List Int) (no : Int) (b : Bool) (h : decide (errOf g 0 = no ∧ seqOf p g = ws) = b) (hws : ws.length ≤ 9223372036854775807) (w : World) (hw : Ints w.heap.size w vw ws) :
    Calls Try.prog 13 #[.int .u64 p, .int .i64 g, vw, .int .i64 no] w fun e w' => e = .returned (.bool b) ∧ Below w.heap.size w w' := h ▸ all_any p g p0 p1 b0 b1 vw ws no hws w hw

theorem ints_lit (w : World) (xs : List Int) (c : Nat) : Ints (w.heap.size + 1) (w.alloc (.cells (xs.map (Value.int .i64)).toArray 3)) (.slice (some ⟨w.heap.size, 0, none⟩) xs.length c) xs := by
  refine ⟨_, c, rfl, fun k hk => ⟨w.heap.size, 0, xs[k], rfl, by omega, List.getElem?_eq_getElem hk, ?_⟩⟩
  rw [Nat.zero_add, cell_of_row _ _ _ _ _ _ (World.alloc_heap_new w _)]
  simp [List.getElem?_eq_getElem hk]

set_option maxHeartbeats 1600000 in
theorem known_any (w : World) : Calls Try.prog 12 #[] w fun e w' => e = .returned (.bool true) ∧ Below w.heap.size w w' := by
  go_enter Try.func12, Try.ntmps12
  go_wp2_with fail
  refine (all_lit 3 8 (by omega) (by omega) (by omega) (by omega) _ [3, 4, 6, 1, 5, 2, 0, 7] 0 true (by decide +kernel) (by simp) _ (by simpa using ints_lit w [3, 4, 6, 1, 5, 2, 0, 7] 8)).mono ?_
  rintro e w1 ⟨rfl, hb⟩
  go_wp2_with fail
  refine (lawAt_lit 3 8 0 3 0 true (by decide +kernel) (by omega) (by omega) (by omega) (by omega) _).mono ?_
  rintro e w' ⟨rfl, rfl⟩
  go_wp2_with fail
  refine (lawAt_lit 3 8 3 1 0 true (by decide +kernel) (by omega) (by omega) (by omega) (by omega) _).mono ?_
  rintro e w' ⟨rfl, rfl⟩
  go_wp2_with fail
  refine (lawAt_lit 3 8 8 0 3 true (by decide +kernel) (by omega) (by omega) (by omega) (by omega) _).mono ?_
  rintro e w' ⟨rfl, rfl⟩
  go_wp2_with fail
  refine (lawAt_lit 11 8 3 1 0 true (by decide +kernel) (by omega) (by omega) (by omega) (by omega) _).mono ?_
  rintro e w' ⟨rfl, rfl⟩
  go_wp2_with fail
  refine (lawIndex_lit 3 8 2 5 0 true (by decide +kernel) (by omega) (by omega) (by omega) (by omega) _).mono ?_
  rintro e w2 ⟨rfl, hb2⟩
  go_wp2_with fail
  refine (lawIndex_lit 3 8 7 7 0 true (by decide +kernel) (by omega) (by omega) (by omega) (by omega) _).mono ?_
  rintro e w3 ⟨rfl, hb3⟩
  go_wp2_with fail
  refine (lawIndex_lit 3 8 8 0 3 true (by decide +kernel) (by omega) (by omega) (by omega) (by omega) _).mono ?_
  rintro e w4 ⟨rfl, hb4⟩
  go_wp2_with fail
  refine (valid_lit 1 true (by decide +kernel) (by omega) (by omega) _).mono ?_
  rintro e w' ⟨rfl, rfl⟩
  go_wp2_with fail
  refine (valid_lit 0 false (by decide +kernel) (by omega) (by omega) _).mono ?_
  rintro e w' ⟨rfl, rfl⟩
  go_wp2_with fail
  refine (valid_lit 6 false (by decide +kernel) (by omega) (by omega) _).mono ?_
  rintro e w' ⟨rfl, rfl⟩
  go_wp2_with fail
  refine (valid_lit 1048576 true (by decide +kernel) (by omega) (by omega) _).mono ?_
  rintro e w' ⟨rfl, rfl⟩
  go_wp2_with fail
  refine (valid_lit 2097152 false (by decide +kernel) (by omega) (by omega) _).mono ?_
  rintro e w' ⟨rfl, rfl⟩
  go_wp2_with fail
  refine (all_lit 9 1 (by omega) (by omega) (by omega) (by omega) _ [0] 0 true (by decide +kernel) (by simp) _ (by simpa using ints_lit w4 [0] 1)).mono ?_
  rintro e w5 ⟨rfl, hb5⟩
  go_wp2_with fail
  go_ret
  refine ⟨rfl, ?_⟩
  have h1 : Below w.heap.size w w1 := ((Below.refl _ w).alloc (Nat.le_refl _) _).trans (hb.mono (by simp))
  have h2 := h1.trans (hb2.mono h1.size)
  have h3 := h2.trans (hb3.mono h2.size)
  have h4 := h3.trans (hb4.mono h3.size)
  exact (h4.alloc h4.size _).trans (hb5.mono (by have := h4.size; simp; omega))
end Go.Proofs.Ytkigfmfofnhknaa
