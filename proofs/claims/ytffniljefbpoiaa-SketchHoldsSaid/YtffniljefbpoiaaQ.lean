/-
  The contract of cubbyholelaw33.equal.
-/
import Derived.Test.YtffniljefbpoiaaP
import Derived.Deep.RegionLaw
namespace Go.Proofs.Ytffniljefbpoiaa
open Go.ChangeShapes Go.WideShapes Go.ChangeAt Go.RowKit
set_option linter.unusedVariables false

/-- What the comparison sees. -/
structure Hold (w : World) (p : Nat) (G Q : Nat → Nat) (K : Sk) (R C : Nat → Nat) (bx : Nat) (W : World) : Prop where
  bel : Below w.heap.size w W
  s : IsSk W p G Q K
  r : IsRef W R C K
  bx : W.heap[bx]? = some (.cells (refC K R C) 27 (0, 0))
theorem Hold.below {w W W' : World} {p : Nat} {G Q : Nat → Nat} {K : Sk} {R C : Nat → Nat} {bx : Nat} (h : Hold w p G Q K R C bx W) (k : Below W.heap.size W W') : Hold w p G Q K R C bx W' :=
  ⟨h.bel.trans (k.mono h.bel.size), h.s.below k, h.r.below k, (k.block _ (lt_of_heap h.bx)).trans h.bx⟩
theorem Hold.drew {w W : World} {p : Nat} {G Q : Nat → Nat} {K : Sk} {R C : Nat → Nat} {bx : Nat} (h : Hold w p G Q K R C bx W) : Hold w p G Q K R C bx W.drew := h.below (Below.refl _ _).drew
/-- With the cells of the box. -/
abbrev HoldC (w : World) (p : Nat) (G Q : Nat → Nat) (K : Sk) (R C : Nat → Nat) (bx : Nat) (W : World) : Prop :=
  Hold w p G Q K R C bx W ∧ W.cell? ⟨bx, 0, none⟩ = some (.int .i64 (K.n : Nat)) ∧ W.cell? ⟨bx, 1, none⟩ = some (.int .i64 (K.s : Nat)) ∧ W.cell? ⟨bx, 2, none⟩ = some (.int .i64 (K.a : Nat)) ∧ W.cell? ⟨bx, 3, none⟩ = some (.int .u64 K.seed) ∧ W.cell? ⟨bx, 4, none⟩ = some (.slice (some ⟨R 0, 0, none⟩) K.n (C 0)) ∧ W.cell? ⟨bx, 5, none⟩ = some (.slice (some ⟨R 1, 0, none⟩) K.n (C 1)) ∧ W.cell? ⟨bx, 6, none⟩ = some (.slice (some ⟨R 2, 0, none⟩) K.n (C 2)) ∧ W.cell? ⟨bx, 7, none⟩ = some (.slice (some ⟨R 3, 0, none⟩) K.n (C 3))
theorem Hold.c {w W : World} {p : Nat} {G Q : Nat → Nat} {K : Sk} {R C : Nat → Nat} {bx : Nat} (h : Hold w p G Q K R C bx W) : Hold w p G Q K R C bx W ∧ W.cell? ⟨bx, 0, none⟩ = some (.int .i64 (K.n : Nat)) ∧ W.cell? ⟨bx, 1, none⟩ = some (.int .i64 (K.s : Nat)) ∧ W.cell? ⟨bx, 2, none⟩ = some (.int .i64 (K.a : Nat)) ∧ W.cell? ⟨bx, 3, none⟩ = some (.int .u64 K.seed) ∧ W.cell? ⟨bx, 4, none⟩ = some (.slice (some ⟨R 0, 0, none⟩) K.n (C 0)) ∧ W.cell? ⟨bx, 5, none⟩ = some (.slice (some ⟨R 1, 0, none⟩) K.n (C 1)) ∧ W.cell? ⟨bx, 6, none⟩ = some (.slice (some ⟨R 2, 0, none⟩) K.n (C 2)) ∧ W.cell? ⟨bx, 7, none⟩ = some (.slice (some ⟨R 3, 0, none⟩) K.n (C 3)) :=
  ⟨h, cell_of h.bx 0, cell_of h.bx 1, cell_of h.bx 2, cell_of h.bx 3, cell_of h.bx 4, cell_of h.bx 5, cell_of h.bx 6, cell_of h.bx 7⟩
section
variable {w W : World} {p : Nat} {G Q : Nat → Nat} {K : Sk} {R C : Nat → Nat} {bx : Nat}
theorem h_ref (s : HoldC w p G Q K R C bx W) (hK : K.Ok) (key : ByteArray) (hs : key.size ≤ maxLen) : Calls Try.prog 23 #[.agg #[.int .i64 (K.n : Nat), .int .i64 (K.s : Nat), .int .i64 (K.a : Nat), .int .u64 K.seed, .slice (some ⟨R 0, 0, none⟩) K.n (C 0), .slice (some ⟨R 1, 0, none⟩) K.n (C 1), .slice (some ⟨R 2, 0, none⟩) K.n (C 2), .slice (some ⟨R 3, 0, none⟩) K.n (C 3)], .string key] W fun e w' => e = .returned (.agg #[.int .i64 (K.plc key.data.toList 0 : Nat), .int .i64 (K.plc key.data.toList 1 : Nat), .int .i64 (K.plc key.data.toList 2 : Nat), .int .i64 (K.plc key.data.toList 3 : Nat)]) ∧ Hold w p G Q K R C bx w' := by
  refine (refPlaces_is (R := R) (C := C) hK key hs).mono ?_
  rintro e w' ⟨rfl, b⟩; exact ⟨rfl, s.1.below b⟩
theorem h_law (s : HoldC w p G Q K R C bx W) (hK : K.Ok) (key : ByteArray) (hs : key.size ≤ maxLen) : Calls Try.prog 22 #[.pointer (some ⟨p, 0, none⟩), .string key, .agg #[.int .i64 (K.plc key.data.toList 0 : Nat), .int .i64 (K.plc key.data.toList 1 : Nat), .int .i64 (K.plc key.data.toList 2 : Nat), .int .i64 (K.plc key.data.toList 3 : Nat)]] W fun e w' => e = .returned (.bool true) ∧ Hold w p G Q K R C bx w' := by
  refine (placesL_is s.1.s hK key hs).mono ?_
  rintro e w' ⟨rfl, b⟩; exact ⟨rfl, s.1.below b⟩
theorem h_cnt (s : HoldC w p G Q K R C bx W) (hK : K.Ok) (key : ByteArray) (hs : key.size ≤ maxLen) : Calls Try.prog 20 #[.pointer (some ⟨p, 0, none⟩), .string key] W fun e w' => e = .returned (.int .i64 (K.cnt key.data.toList : Nat)) ∧ Hold w p G Q K R C bx w' := by
  refine (count_is s.1.s hK key hs).mono ?_
  rintro e w' ⟨rfl, b⟩; exact ⟨rfl, s.1.below b⟩
theorem h_rcnt (s : HoldC w p G Q K R C bx W) (hK : K.Ok) (key : ByteArray) (hs : key.size ≤ maxLen) : Calls Try.prog 33 #[.agg #[.int .i64 (K.n : Nat), .int .i64 (K.s : Nat), .int .i64 (K.a : Nat), .int .u64 K.seed, .slice (some ⟨R 0, 0, none⟩) K.n (C 0), .slice (some ⟨R 1, 0, none⟩) K.n (C 1), .slice (some ⟨R 2, 0, none⟩) K.n (C 2), .slice (some ⟨R 3, 0, none⟩) K.n (C 3)], .string key] W fun e w' => e = .returned (.int .i64 (K.cnt key.data.toList : Nat)) ∧ Hold w p G Q K R C bx w' := by
  refine (refCount_is s.1.r hK key hs).mono ?_
  rintro e w' ⟨rfl, b⟩; exact ⟨rfl, s.1.below b⟩
theorem h_add (s : HoldC w p G Q K R C bx W) (hK : K.Ok) : Calls Try.prog 21 #[.pointer (some ⟨p, 0, none⟩)] W fun e w' => e = .returned (.int .i64 (K.a : Nat)) ∧ Hold w p G Q K R C bx w' := by
  refine (additions_is s.1.s hK).mono ?_
  rintro e w' ⟨rfl, rfl⟩; exact ⟨rfl, s.1⟩
end
set_option maxRecDepth 100000 in
set_option maxHeartbeats 8000000 in
theorem equal_is {w : World} {p : Nat} {G Q : Nat → Nat} {K : Sk} {R C : Nat → Nat} (s : IsSk w p G Q K) (r : IsRef w R C K) (hK : K.Ok) (key : ByteArray) (hs : key.size ≤ maxLen) :
    Calls Try.prog 18 #[.pointer (some ⟨p, 0, none⟩), .agg (refC K R C), .string key] w fun e w' => e = .returned (.bool true) ∧ Below w.heap.size w w' := by
  have n1 := hK.n16.2.1
  have b0 : Below w.heap.size w (w.alloc (.cells (refC K R C) 27)) := (Below.refl _ _).alloc (Nat.le_refl _) _
  have H0 : Hold w p G Q K R C w.heap.size (w.alloc (.cells (refC K R C) 27)) := ⟨b0, s.below b0, r.below b0, heap_new rfl⟩
  go_enter Try.func18, Try.ntmps18
  go_wp2_with fail
  clear b0
  go_loopw [7] (fun x wr => ∃ j : Nat, j ≤ 4 ∧ x = .int .i64 (j : Nat) ∧ Hold w p G Q K R C w.heap.size wr) (fun x _ => 5 - (intOf x).toNat)
  case atStart => exact ⟨0, by omega, rfl, H0⟩
  case round =>
    obtain ⟨j, hj, rfl, v⟩ := hrel
    clear H0
    by_cases hj4 : j < 4
    · have row := row_is v.s hK hj4
      go_wp2_with (first | (go_at_call 17; refine row.mono ?_; clear row; rintro e w1 ⟨g, rfl, b1, hg, n2⟩; have v1 := v.below b1; have c4 : w1.cell? ⟨w.heap.size, 4 + j, none⟩ = some (.slice (some ⟨R j, 0, none⟩) K.n (C j)) := (cell_of v1.bx _).trans (refC_at K R C j hj4)) | (go_at_call 25; refine (same_is n2 (v1.r j hj4) n1).mono ?_; rintro e w2 ⟨rfl, b2⟩; have v2 := v1.below b2))
      go_roundw
      case rel => exact ⟨j + 1, by omega, by go_num, v2⟩
      all_goals (simp [intOf]; omega)
    · obtain rfl : j = 4 := by omega
      go_upto_region 7 with fail
      go_region_held3 (fun W => Hold w p G Q K R C w.heap.size W ∧ W.cell? ⟨w.heap.size, 0, none⟩ = some (.int .i64 (K.n : Nat)) ∧ W.cell? ⟨w.heap.size, 1, none⟩ = some (.int .i64 (K.s : Nat)) ∧ W.cell? ⟨w.heap.size, 2, none⟩ = some (.int .i64 (K.a : Nat)) ∧ W.cell? ⟨w.heap.size, 3, none⟩ = some (.int .u64 K.seed) ∧ W.cell? ⟨w.heap.size, 4, none⟩ = some (.slice (some ⟨R 0, 0, none⟩) K.n (C 0)) ∧ W.cell? ⟨w.heap.size, 5, none⟩ = some (.slice (some ⟨R 1, 0, none⟩) K.n (C 1)) ∧ W.cell? ⟨w.heap.size, 6, none⟩ = some (.slice (some ⟨R 2, 0, none⟩) K.n (C 2)) ∧ W.cell? ⟨w.heap.size, 7, none⟩ = some (.slice (some ⟨R 3, 0, none⟩) K.n (C 3))) (first | assumption | exact Hold.c (by assumption) | exact v.drew.c) (first | (go_at_call 23; refine (h_ref (by assumption) hK key hs).mono ?_; rintro e w' ⟨rfl, H⟩) | (go_at_call 22; refine (h_law (by assumption) hK key hs).mono ?_; rintro e w' ⟨rfl, H⟩) | (go_at_call 20; refine (h_cnt (by assumption) hK key hs).mono ?_; rintro e w' ⟨rfl, H⟩) | (go_at_call 33; refine (h_rcnt (by assumption) hK key hs).mono ?_; rintro e w' ⟨rfl, H⟩) | (go_at_call 21; refine (h_add (by assumption) hK).mono ?_; rintro e w' ⟨rfl, H⟩))
      all_goals go_wp2_with fail
      all_goals go_ret
      all_goals exact ⟨rfl, H.bel⟩
end Go.Proofs.Ytffniljefbpoiaa
