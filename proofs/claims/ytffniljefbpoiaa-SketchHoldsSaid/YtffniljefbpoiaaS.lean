/-
  The walks of SketchNew and SketchPlaces.
-/
import Derived.Test.YtffniljefbpoiaaR
namespace Go.Proofs.Ytffniljefbpoiaa
open Go.ChangeShapes Go.WideShapes Go.ChangeAt Go.RowKit
set_option linter.unusedVariables false

theorem word_wf {x : Int} (h : (Lit.int .u64 x).wf = true) : 0 ≤ x ∧ x < 18446744073709551616 := by
  have := bounds_u64 h; omega
theorem int_wf {x : Int} (h : (Lit.int .i64 x).wf = true) : -9223372036854775808 ≤ x ∧ x ≤ 9223372036854775807 := by
  have := bounds_i64 h; omega
/-- The reference's New, with the cells in sight. -/
theorem refNew_v (n s : Nat) (seed : Int) (h1 : widthB n = true) (h2 : s ≤ 16777216) (h3 : Word seed) (w : World) : Calls Try.prog 8 #[.int .i64 (n : Nat), .int .u64 seed, .int .i64 (s : Nat)] w fun e w' => ∃ R C, e = .returned (.tuple #[.agg #[.int .i64 (n : Nat), .int .i64 (s : Nat), .int .i64 0, .int .u64 seed, .slice (some ⟨R 0, 0, none⟩) n (C 0), .slice (some ⟨R 1, 0, none⟩) n (C 1), .slice (some ⟨R 2, 0, none⟩) n (C 2), .slice (some ⟨R 3, 0, none⟩) n (C 3)], .int .i64 0]) ∧ Below w.heap.size w w' ∧ (∀ r, r < 4 → w.heap.size ≤ R r) ∧ (∀ r s, r < 4 → s < 4 → r ≠ s → R r ≠ R s) ∧ IsRef w' R C (Sk.new n seed s) := refNew_ok n s seed h1 h2 h3 w
theorem equal_v {w : World} {p : Nat} {G Q : Nat → Nat} {n s : Nat} {seed : Int} {R C : Nat → Nat} (t : IsSk w p G Q (Sk.new n seed s)) (r : IsRef w R C (Sk.new n seed s)) (hK : (Sk.new n seed s).Ok) (key : ByteArray) (hs : key.size ≤ maxLen) :
    Calls Try.prog 18 #[.pointer (some ⟨p, 0, none⟩), .agg #[.int .i64 (n : Nat), .int .i64 (s : Nat), .int .i64 0, .int .u64 seed, .slice (some ⟨R 0, 0, none⟩) n (C 0), .slice (some ⟨R 1, 0, none⟩) n (C 1), .slice (some ⟨R 2, 0, none⟩) n (C 2), .slice (some ⟨R 3, 0, none⟩) n (C 3)], .string key] w fun e w' => e = .returned (.bool true) ∧ Below w.heap.size w w' := equal_is t r hK key hs
theorem refPlaces_v {w : World} {n s : Nat} {seed : Int} {R C : Nat → Nat} (hK : (Sk.new n seed s).Ok) (key : ByteArray) (hs : key.size ≤ maxLen) :
    Calls Try.prog 23 #[.agg #[.int .i64 (n : Nat), .int .i64 (s : Nat), .int .i64 0, .int .u64 seed, .slice (some ⟨R 0, 0, none⟩) n (C 0), .slice (some ⟨R 1, 0, none⟩) n (C 1), .slice (some ⟨R 2, 0, none⟩) n (C 2), .slice (some ⟨R 3, 0, none⟩) n (C 3)], .string key] w fun e w' => e = .returned (.agg #[.int .i64 ((Sk.new n seed s).plc key.data.toList 0 : Nat), .int .i64 ((Sk.new n seed s).plc key.data.toList 1 : Nat), .int .i64 ((Sk.new n seed s).plc key.data.toList 2 : Nat), .int .i64 ((Sk.new n seed s).plc key.data.toList 3 : Nat)]) ∧ Below w.heap.size w w' := refPlaces_is (R := R) (C := C) hK key hs
set_option maxRecDepth 100000 in
set_option maxHeartbeats 8000000 in
theorem sketchNew_walk (a0 a1 a2 : Int) (w0 : (Lit.int .i64 a0).wf = true) (w1 : (Lit.int .u64 a1).wf = true) (w2 : (Lit.int .i64 a2).wf = true) (w : World) :
    Calls Try.prog 5 #[.int .i64 a0, .int .u64 a1, .int .i64 a2] w fun e w' => e = .returned (.bool true) ∧ Below w.heap.size w w' := by
  have hseed : Word a1 := word_wf w1
  have hb := int_wf w0
  clear w0 w1 w2
  by_cases hg : 0 ≤ a0 ∧ widthB a0.toNat = true ∧ 0 ≤ a2 ∧ a2 ≤ 16777216
  · obtain ⟨g0, g1, g2, g3⟩ := hg
    obtain ⟨n, rfl⟩ := Int.eq_ofNat_of_zero_le g0
    obtain ⟨s, rfl⟩ := Int.eq_ofNat_of_zero_le g2
    generalize a1 = seed at *
    have h1 : widthB n = true := by simpa using g1
    have h2 : s ≤ 16777216 := by omega
    have hK : (Sk.new n seed s).Ok := Sk.new_ok h1 h2 hseed
    clear g0 g1 g2 g3 hb
    by_cases h2000 : 2000 < n
    · go_enter Try.func5, Try.ntmps5
      go_wp2_with (first | (go_at_call 8; refine (refNew_v n s seed h1 h2 hseed _).mono ?_; rintro e v1 ⟨R, C, rfl, b1, -, -, -⟩) | (go_at_call 10; refine (known_any _).mono ?_; rintro e v2 ⟨rfl, b2⟩))
      go_ret
      exact ⟨rfl, (b1.alloc b1.size _).trans (b2.mono (b1.alloc b1.size _).size)⟩
    · go_enter Try.func5, Try.ntmps5
      go_wp2_with (first | (go_at_call 8; refine (refNew_v n s seed h1 h2 hseed _).mono ?_; rintro e v1 ⟨R, C, rfl, b1, -, -, r1⟩; have b2 := b1.alloc b1.size (.cells #[.int .i64 (n : Nat), .int .i64 (s : Nat), .int .i64 0, .int .u64 seed, .slice (some ⟨R 0, 0, none⟩) n (C 0), .slice (some ⟨R 1, 0, none⟩) n (C 1), .slice (some ⟨R 2, 0, none⟩) n (C 2), .slice (some ⟨R 3, 0, none⟩) n (C 3)] 27); have r2 := r1.below ((Below.refl _ _).alloc (Nat.le_refl _) (.cells #[.int .i64 (n : Nat), .int .i64 (s : Nat), .int .i64 0, .int .u64 seed, .slice (some ⟨R 0, 0, none⟩) n (C 0), .slice (some ⟨R 1, 0, none⟩) n (C 1), .slice (some ⟨R 2, 0, none⟩) n (C 2), .slice (some ⟨R 3, 0, none⟩) n (C 3)] 27)); have o2 : (v1.alloc (.cells #[.int .i64 (n : Nat), .int .i64 (s : Nat), .int .i64 0, .int .u64 seed, .slice (some ⟨R 0, 0, none⟩) n (C 0), .slice (some ⟨R 1, 0, none⟩) n (C 1), .slice (some ⟨R 2, 0, none⟩) n (C 2), .slice (some ⟨R 3, 0, none⟩) n (C 3)] 27)).heap[v1.heap.size]? = _ := heap_new rfl) | (go_at_call 11; refine (new_ok n s seed h1 h2 hseed _).mono ?_; rintro e v3 ⟨p, G, Q, rfl, b3, -, s3⟩; have r3 := r2.below b3; have o3 := (b3.block _ (lt_of_heap o2)).trans o2; have c0 : v3.cell? ⟨v1.heap.size, 0, none⟩ = some (.int .i64 (n : Nat)) := cell_of o3 0; have c1 : v3.cell? ⟨v1.heap.size, 1, none⟩ = some (.int .i64 (s : Nat)) := cell_of o3 1; have c2 : v3.cell? ⟨v1.heap.size, 2, none⟩ = some (.int .i64 0) := cell_of o3 2; have c3 : v3.cell? ⟨v1.heap.size, 3, none⟩ = some (.int .u64 seed) := cell_of o3 3; have c4 : v3.cell? ⟨v1.heap.size, 4, none⟩ = some (.slice (some ⟨R 0, 0, none⟩) n (C 0)) := cell_of o3 4; have c5 : v3.cell? ⟨v1.heap.size, 5, none⟩ = some (.slice (some ⟨R 1, 0, none⟩) n (C 1)) := cell_of o3 5; have c6 : v3.cell? ⟨v1.heap.size, 6, none⟩ = some (.slice (some ⟨R 2, 0, none⟩) n (C 2)) := cell_of o3 6; have c7 : v3.cell? ⟨v1.heap.size, 7, none⟩ = some (.slice (some ⟨R 3, 0, none⟩) n (C 3)) := cell_of o3 7; have b4 := b2.trans (b3.mono b2.size)) | (go_at_call 18; refine (equal_v s3 r3 hK ⟨#[97]⟩ sa).mono ?_; rintro e v4 ⟨rfl, b5⟩; have b6 := b4.trans (b5.mono b4.size)) | (go_at_call 10; refine (known_any _).mono ?_; rintro e v5 ⟨rfl, b7⟩))
      go_ret
      exact ⟨rfl, b6.trans (b7.mono b6.size)⟩
  · have hno : 0 ≤ a0 → a0 ≤ 65536 → widthB a0.toNat = true → a2 < 0 ∨ 16777216 < a2 := by
      intro q1 q2 q3
      by_cases q : 0 ≤ a2 ∧ a2 ≤ 16777216
      · exact absurd ⟨q1, q3, q.1, q.2⟩ hg
      · omega
    clear hg
    have R8 := fun w => refNew_no a0 a2 a1 hno w
    have R11 := fun w => new_no a0 a2 a1 hno hseed w hb
    clear hno hb
    go_enter Try.func5, Try.ntmps5
    go_wp2_with (first | (go_at_call 8; refine (R8 _).mono ?_; rintro e v1 ⟨rfl, b1⟩; have b2 := b1.alloc b1.size (.cells #[.int .i64 0, .int .i64 0, .int .i64 0, .int .u64 0, .slice none 0 0, .slice none 0 0, .slice none 0 0, .slice none 0 0] 27)) | (go_at_call 11; refine (R11 _).mono ?_; rintro e v3 ⟨rfl, rfl⟩) | (go_at_call 10; refine (known_any _).mono ?_; rintro e v5 ⟨rfl, b7⟩))
    go_ret
    exact ⟨rfl, b2.trans (b7.mono b2.size)⟩
set_option maxRecDepth 100000 in
set_option maxHeartbeats 8000000 in
theorem sketchPlaces_walk (a0 a1 : Int) (key : ByteArray) (w0 : (Lit.int .i64 a0).wf = true) (w1 : (Lit.int .u64 a1).wf = true) (w2 : key.size ≤ maxLen) (w : World) :
    Calls Try.prog 6 #[.int .i64 a0, .int .u64 a1, .string key] w fun e w' => e = .returned (.bool true) ∧ Below w.heap.size w w' := by
  have hseed : Word a1 := word_wf w1
  have hb := int_wf w0
  clear w0 w1
  by_cases hg : 0 ≤ a0 ∧ widthB a0.toNat = true
  · obtain ⟨g0, g1⟩ := hg
    obtain ⟨n, rfl⟩ := Int.eq_ofNat_of_zero_le g0
    generalize a1 = seed at *
    have h1 : widthB n = true := by simpa using g1
    have hK : (Sk.new n seed 0).Ok := Sk.new_ok h1 (by omega) hseed
    clear g0 g1 hb
    have R8 := fun w => refNew_v n 0 seed h1 (by omega) hseed w
    have R11 := fun w => new_ok n 0 seed h1 (by omega) hseed w
    by_cases h300 : 300 < key.size
    · go_enter Try.func6, Try.ntmps6
      go_wp2_with (first | (go_at_call 8; refine (R8 _).mono ?_; rintro e v1 ⟨R, C, rfl, b1, -, -, -⟩) | (go_at_call 10; refine (known_any _).mono ?_; rintro e v2 ⟨rfl, b2⟩))
      go_ret
      exact ⟨rfl, (b1.alloc b1.size _).trans (b2.mono (b1.alloc b1.size _).size)⟩
    · go_enter Try.func6, Try.ntmps6
      go_wp2_with (first | (go_at_call 8; refine (R8 _).mono ?_; rintro e v1 ⟨R, C, rfl, b1, -, -, -⟩; have b2 := b1.alloc b1.size (.cells #[.int .i64 (n : Nat), .int .i64 0, .int .i64 0, .int .u64 seed, .slice (some ⟨R 0, 0, none⟩) n (C 0), .slice (some ⟨R 1, 0, none⟩) n (C 1), .slice (some ⟨R 2, 0, none⟩) n (C 2), .slice (some ⟨R 3, 0, none⟩) n (C 3)] 27); have o2 : (v1.alloc (.cells #[.int .i64 (n : Nat), .int .i64 0, .int .i64 0, .int .u64 seed, .slice (some ⟨R 0, 0, none⟩) n (C 0), .slice (some ⟨R 1, 0, none⟩) n (C 1), .slice (some ⟨R 2, 0, none⟩) n (C 2), .slice (some ⟨R 3, 0, none⟩) n (C 3)] 27)).heap[v1.heap.size]? = _ := heap_new rfl) | (go_at_call 11; refine (R11 _).mono ?_; rintro e v3 ⟨p, G, Q, rfl, b3, -, s3⟩; have o3 := (b3.block _ (lt_of_heap o2)).trans o2; have c0 : v3.cell? ⟨v1.heap.size, 0, none⟩ = some (.int .i64 (n : Nat)) := cell_of o3 0; have c1 : v3.cell? ⟨v1.heap.size, 1, none⟩ = some (.int .i64 0) := cell_of o3 1; have c2 : v3.cell? ⟨v1.heap.size, 2, none⟩ = some (.int .i64 0) := cell_of o3 2; have c3 : v3.cell? ⟨v1.heap.size, 3, none⟩ = some (.int .u64 seed) := cell_of o3 3; have c4 : v3.cell? ⟨v1.heap.size, 4, none⟩ = some (.slice (some ⟨R 0, 0, none⟩) n (C 0)) := cell_of o3 4; have c5 : v3.cell? ⟨v1.heap.size, 5, none⟩ = some (.slice (some ⟨R 1, 0, none⟩) n (C 1)) := cell_of o3 5; have c6 : v3.cell? ⟨v1.heap.size, 6, none⟩ = some (.slice (some ⟨R 2, 0, none⟩) n (C 2)) := cell_of o3 6; have c7 : v3.cell? ⟨v1.heap.size, 7, none⟩ = some (.slice (some ⟨R 3, 0, none⟩) n (C 3)) := cell_of o3 7; have b4 := b2.trans (b3.mono b2.size)) | (go_at_call 23; refine (refPlaces_v (s := 0) (R := R) (C := C) hK key w2).mono ?_; rintro e v4 ⟨rfl, b5⟩; have b6 := b4.trans (b5.mono b4.size); have s4 := s3.below b5) | (go_at_call 22; refine (placesL_is s4 hK key w2).mono ?_; rintro e v6 ⟨rfl, b8⟩; have b9 := b6.trans (b8.mono b6.size)) | (go_at_call 10; refine (known_any _).mono ?_; rintro e v5 ⟨rfl, b7⟩))
      go_ret
      exact ⟨rfl, b9.trans (b7.mono b9.size)⟩
  · have hno : 0 ≤ a0 → a0 ≤ 65536 → widthB a0.toNat = true → (0 : Int) < 0 ∨ (16777216 : Int) < 0 := fun q1 _ q3 => absurd ⟨q1, q3⟩ hg
    clear hg
    have R8 := fun w => refNew_no a0 0 a1 hno w
    clear hno hb
    go_enter Try.func6, Try.ntmps6
    go_wp2_with (first | (go_at_call 8; refine (R8 _).mono ?_; rintro e v1 ⟨rfl, b1⟩; have b2 := b1.alloc b1.size (.cells #[.int .i64 0, .int .i64 0, .int .i64 0, .int .u64 0, .slice none 0 0, .slice none 0 0, .slice none 0 0, .slice none 0 0] 27)) | (go_at_call 10; refine (known_any _).mono ?_; rintro e v5 ⟨rfl, b7⟩))
    go_ret
    exact ⟨rfl, b2.trans (b7.mono b2.size)⟩
end Go.Proofs.Ytffniljefbpoiaa
