/-
  The contracts of a sketch's small methods.
-/
import Derived.Test.YtffniljefbpoiaaC
namespace Go.Proofs.Ytffniljefbpoiaa
open Go.ChangeShapes Go.WideShapes Go.ChangeAt Go.RowKit
set_option linter.unusedVariables false

theorem wrap64_mod (x : Int) (e : Nat) (he : e ≤ 64) : wrap64 x % ((2 ^ e : Nat) : Int) = x % ((2 ^ e : Nat) : Int) := by
  obtain ⟨q, hq⟩ : ∃ q : Int, wrap64 x = x + 18446744073709551616 * q := ⟨-((x + 9223372036854775808) / 18446744073709551616), by unfold wrap64; omega⟩
  have h64 : (18446744073709551616 : Int) = ((2 ^ e : Nat) : Int) * ((2 ^ (64 - e) : Nat) : Int) := by
    rw [← Int.natCast_mul, ← Nat.pow_add, show e + (64 - e) = 64 by omega]; rfl
  rw [hq, h64, Int.mul_assoc, Int.add_mul_emod_self_left]
theorem i64_mask (x : Int) (e : Nat) (he : e < 63) : bits .and .i64 x (((2 ^ e : Nat) : Int) - 1) = x % ((2 ^ e : Nat) : Int) := by
  have hp : 0 < 2 ^ e := Nat.pow_pos (by omega)
  have hl : 2 ^ e < 2 ^ 63 := Nat.pow_lt_pow_right (by omega) he
  have hm : (BitVec.ofInt 64 (((2 ^ e : Nat) : Int) - 1)).toNat = 2 ^ e - 1 := by
    rw [show (((2 ^ e : Nat) : Int) - 1) = ((2 ^ e - 1 : Nat) : Int) by omega, BitVec.ofInt_natCast, BitVec.toNat_ofNat]
    exact Nat.mod_eq_of_lt (by omega)
  have key : (BitVec.ofInt 64 x &&& BitVec.ofInt 64 (((2 ^ e : Nat) : Int) - 1)).toNat = (x % ((2 ^ 64 : Nat) : Int)).toNat % 2 ^ e := by
    rw [BitVec.toNat_and, BitVec.toNat_ofInt, hm, Nat.and_two_pow_sub_one_eq_mod]
  show IntKind.i64.wrap ((BitVec.ofInt 64 x &&& BitVec.ofInt 64 (((2 ^ e : Nat) : Int) - 1)).toNat : Nat) = _
  rw [key, IntKind.wrap_i64]
  have hlt : (x % ((2 ^ 64 : Nat) : Int)).toNat % 2 ^ e < 2 ^ e := Nat.mod_lt _ hp
  have h63 : (2 : Nat) ^ 63 = 9223372036854775808 := rfl
  have e1 : (((x % ((2 ^ 64 : Nat) : Int)).toNat % 2 ^ e : Nat) : Int) = x % ((2 ^ e : Nat) : Int) := by
    rw [Int.natCast_emod, Int.toNat_of_nonneg (Int.emod_nonneg _ (by decide))]
    exact Int.emod_emod_of_dvd _ ⟨((2 ^ (64 - e) : Nat) : Int), by rw [← Int.natCast_mul, ← Nat.pow_add, show e + (64 - e) = 64 by omega]⟩
  rw [← e1]
  generalize (x % ((2 ^ 64 : Nat) : Int)).toNat % 2 ^ e = y at *
  omega
theorem at_law {c : Nat → Nat} (h : Small c) (i : Nat) : bits .and .i64 (wrap64 (wordsF c (i / 16) / 2 ^ (i % 16 * 4))) 15 = ((c i : Nat) : Int) := by
  have := i64_mask (wrap64 (wordsF c (i / 16) / 2 ^ (i % 16 * 4))) 4 (by omega)
  rw [show (((2 ^ 4 : Nat) : Int) - 1) = 15 from rfl] at this
  rw [this, wrap64_mod _ 4 (by omega)]
  have h2 := pack_digit h i
  unfold wordsF
  rw [← h2]
  simp
theorem zero_is {w : World} {p : Nat} {G Q : Nat → Nat} {K : Sk} (s : IsSk w p G Q K) (hK : K.Ok) : Calls Try.prog 28 #[.pointer (some ⟨p, 0, none⟩)] w fun e w' => e = .returned (.bool false) ∧ w = w' := by
  have c0 : w.cell? ⟨p, 0, none⟩ = some (.int .i64 (K.n : Nat)) := cell_of s.obj 0
  have hz : ¬ (K.n : Int) = 0 := by have := hK.n16; omega
  go_enter Try.func28, Try.ntmps28
  go_wp2
  go_ret
  exact ⟨ret_bool (by simpa using hz), rfl⟩
theorem zero_nil (w : World) : Calls Try.prog 28 #[.pointer none] w fun e w' => e = .returned (.bool true) ∧ w = w' := by
  go_enter Try.func28, Try.ntmps28
  go_wp2
  go_ret
  exact ⟨rfl, rfl⟩
set_option maxRecDepth 100000 in
theorem at_is {w : World} {p : Nat} {G Q : Nat → Nat} {K : Sk} (s : IsSk w p G Q K) (hK : K.Ok) {r i : Nat} (hr : r < 4) (hi : i < K.n) : Calls Try.prog 30 #[.pointer (some ⟨p, 0, none⟩), .int .i64 (r : Nat), .int .i64 (i : Nat)] w fun e w' => e = .returned (.int .i64 (K.c r i : Nat)) ∧ w = w' := by
  have c0 := s.row_cell hr
  have h16 := hK.n16
  have c1 := (s.rows r hr).cell (i := i / 16) (by omega)
  have hb : i / 16 < K.n / 16 := by omega
  have hi2 : i < 65536 := by omega
  clear h16
  go_enter Try.func30, Try.ntmps30
  go_wp2
  go_ret
  exact ⟨ret_i64 (at_law (hK.small r) i), rfl⟩
theorem index56_0 (a b c d : Value) (w : World) : (Instr.index 56 (.agg #[a, b, c, d]) (.int .i64 0)).run Try.prog w = .ok a w := by
  simp [Instr.index, run_underlying Try.underlying56, asIntOf, go_sem]
theorem index56_1 (a b c d : Value) (w : World) : (Instr.index 56 (.agg #[a, b, c, d]) (.int .i64 1)).run Try.prog w = .ok b w := by
  simp [Instr.index, run_underlying Try.underlying56, asIntOf, go_sem]
theorem index56_2 (a b c d : Value) (w : World) : (Instr.index 56 (.agg #[a, b, c, d]) (.int .i64 2)).run Try.prog w = .ok c w := by
  simp [Instr.index, run_underlying Try.underlying56, asIntOf, go_sem]
theorem index56_3 (a b c d : Value) (w : World) : (Instr.index 56 (.agg #[a, b, c, d]) (.int .i64 3)).run Try.prog w = .ok d w := by
  simp [Instr.index, run_underlying Try.underlying56, asIntOf, go_sem]
theorem index52_0 (a b c d : Value) (w : World) : (Instr.index 52 (.agg #[a, b, c, d]) (.int .i64 0)).run Try.prog w = .ok a w := by
  simp [Instr.index, run_underlying Try.underlying52, asIntOf, go_sem]
theorem index52_1 (a b c d : Value) (w : World) : (Instr.index 52 (.agg #[a, b, c, d]) (.int .i64 1)).run Try.prog w = .ok b w := by
  simp [Instr.index, run_underlying Try.underlying52, asIntOf, go_sem]
theorem index52_2 (a b c d : Value) (w : World) : (Instr.index 52 (.agg #[a, b, c, d]) (.int .i64 2)).run Try.prog w = .ok c w := by
  simp [Instr.index, run_underlying Try.underlying52, asIntOf, go_sem]
theorem index52_3 (a b c d : Value) (w : World) : (Instr.index 52 (.agg #[a, b, c, d]) (.int .i64 3)).run Try.prog w = .ok d w := by
  simp [Instr.index, run_underlying Try.underlying52, asIntOf, go_sem]
theorem plc_law (S : Int) (S0 : 0 ≤ S) (r : Nat) {n : Nat} (h : ∃ e, 4 ≤ e ∧ e ≤ 16 ∧ n = 2 ^ e) : bits .and .i64 (wrap64 (S / ((65536 ^ r : Nat) : Int))) ((n : Int) - 1) = ((S.toNat / 65536 ^ r % n : Nat) : Int) := by
  obtain ⟨e, h1, h2, rfl⟩ := h
  rw [i64_mask _ e (by omega), wrap64_mod _ e (by omega)]
  obtain ⟨T, rfl⟩ := Int.eq_ofNat_of_zero_le S0
  simp
/-- A block of four numbers. -/
def Four (w : World) (T : Nat) (x0 x1 x2 x3 : Int) (W : World) : Prop := Below w.heap.size w W ∧ w.heap.size ≤ T ∧ W.heap[T]? = some (.cells #[.int .i64 x0, .int .i64 x1, .int .i64 x2, .int .i64 x3] 56 (0, 0))
set_option maxRecDepth 100000 in
theorem places_is {w : World} {p : Nat} {G Q : Nat → Nat} {K : Sk} (s : IsSk w p G Q K) (hK : K.Ok) (key : ByteArray) (hs : key.size ≤ maxLen) :
    Calls Try.prog 29 #[.pointer (some ⟨p, 0, none⟩), .string key] w fun e w' => e = .returned (.agg #[.int .i64 (K.plc key.data.toList 0 : Nat), .int .i64 (K.plc key.data.toList 1 : Nat), .int .i64 (K.plc key.data.toList 2 : Nat), .int .i64 (K.plc key.data.toList 3 : Nat)]) ∧ Below w.heap.size w w' := by
  have s0 := s.below ((Below.refl _ _).alloc (Nat.le_refl _) (.cells #[.int .i64 0, .int .i64 0, .int .i64 0, .int .i64 0] 56))
  have c3 : (w.alloc (.cells #[.int .i64 0, .int .i64 0, .int .i64 0, .int .i64 0] 56)).cell? ⟨p, 3, none⟩ = some (.int .u64 K.seed) := cell_of s0.obj 3
  have c4 : (w.alloc (.cells #[.int .i64 0, .int .i64 0, .int .i64 0, .int .i64 0] 56)).cell? ⟨p, 4, none⟩ = some (.bool false) := cell_of s0.obj 4
  go_enter Try.func29, Try.ntmps29
  go_wp2_with (first | (go_at_call 37; refine (sum_any K.seed hK.seed false key hs _).mono ?_; rintro e w1 ⟨rfl, rfl⟩))
  have f0 : Four w w.heap.size 0 0 0 0 ((w.alloc (.cells #[.int .i64 0, .int .i64 0, .int .i64 0, .int .i64 0] 56)).alloc (.cells #[.int .u64 K.seed, .bool false] 50)) := ⟨((Below.refl _ _).alloc (Nat.le_refl _) _).alloc (by simp) _, Nat.le_refl _, heap_alloc (heap_new rfl) _⟩
  have hn := hK.n16
  have n0 : 16 ≤ K.n := hn.1
  have n1 : K.n ≤ 65536 := hn.2.1
  clear hn
  obtain ⟨S0, S1⟩ : Word (sumI K.seed false key.data.toList) := mixI_word _
  have law : ∀ r, bits .and .i64 (wrap64 (sumI K.seed false key.data.toList / ((65536 ^ r : Nat) : Int))) ((K.n : Int) - 1) = ((K.plc key.data.toList r : Nat) : Int) := fun r => plc_law _ S0 r hK.pow
  have l0 := law 0
  have l1 := law 1
  have l2 := law 2
  have l3 := law 3
  clear law
  rw [show ((65536 ^ 0 : Nat) : Int) = 1 from rfl, Int.ediv_one] at l0
  rw [show ((65536 ^ 1 : Nat) : Int) = 65536 from rfl, wrap_in (by omega)] at l1
  rw [show ((65536 ^ 2 : Nat) : Int) = 4294967296 from rfl, wrap_in (by omega)] at l2
  rw [show ((65536 ^ 3 : Nat) : Int) = 281474976710656 from rfl, wrap_in (by omega)] at l3
  generalize sumI K.seed false key.data.toList = S at *
  have m0 := Lib.hid l0
  have m1 := Lib.hid l1
  have m2 := Lib.hid l2
  have m3 := Lib.hid l3
  clear l0 l1 l2 l3
  refine wp_seen (Four w w.heap.size 0 0 0 0) f0 ?_
  clear c3 c4 s0 f0
  generalize w.heap.size = T
  rintro W ⟨b0, hT, h0⟩
  refine wp_loop_rounds 5 ?_
  rw [rounds_succ]
  go_wp2_with fail
  have d0 : W.cell? ⟨p, 0, none⟩ = some (.int .i64 (K.n : Nat)) := cell_of (s.below b0).obj 0
  have z0 : W.frozen? ⟨T, 0, none⟩ = false := frozen_of h0 0
  have y0 : W.cell? ⟨T, 0, none⟩ = some (.int .i64 0) := cell_of h0 0
  go_region
  go_wp2_with fail
  rw [rounds_succ]
  go_wp2_with fail
  clear d0 z0 y0
  refine wp_seen (Four w T (K.plc key.data.toList 0 : Nat) 0 0 0) ⟨(b0.setCell hT _).drew, hT, by rw [← m0.out]; exact heap_set h0 _⟩ ?_
  clear b0 hT h0 W m0
  rintro W ⟨b0, hT, h0⟩
  have d1 : W.cell? ⟨p, 0, none⟩ = some (.int .i64 (K.n : Nat)) := cell_of (s.below b0).obj 0
  have z1 : W.frozen? ⟨T, 1, none⟩ = false := frozen_of h0 1
  have y1 : W.cell? ⟨T, 1, none⟩ = some (.int .i64 0) := cell_of h0 1
  go_region
  go_wp2_with fail
  rw [rounds_succ]
  go_wp2_with fail
  clear d1 z1 y1
  refine wp_seen (Four w T (K.plc key.data.toList 0 : Nat) (K.plc key.data.toList 1 : Nat) 0 0) ⟨(b0.setCell hT _).drew, hT, by rw [← m1.out]; exact heap_set h0 _⟩ ?_
  clear b0 hT h0 W m1
  rintro W ⟨b0, hT, h0⟩
  have d2 : W.cell? ⟨p, 0, none⟩ = some (.int .i64 (K.n : Nat)) := cell_of (s.below b0).obj 0
  have z2 : W.frozen? ⟨T, 2, none⟩ = false := frozen_of h0 2
  have y2 : W.cell? ⟨T, 2, none⟩ = some (.int .i64 0) := cell_of h0 2
  go_region
  go_wp2_with fail
  rw [rounds_succ]
  go_wp2_with fail
  clear d2 z2 y2
  refine wp_seen (Four w T (K.plc key.data.toList 0 : Nat) (K.plc key.data.toList 1 : Nat) (K.plc key.data.toList 2 : Nat) 0) ⟨(b0.setCell hT _).drew, hT, by rw [← m2.out]; exact heap_set h0 _⟩ ?_
  clear b0 hT h0 W m2
  rintro W ⟨b0, hT, h0⟩
  have d3 : W.cell? ⟨p, 0, none⟩ = some (.int .i64 (K.n : Nat)) := cell_of (s.below b0).obj 0
  have z3 : W.frozen? ⟨T, 3, none⟩ = false := frozen_of h0 3
  have y3 : W.cell? ⟨T, 3, none⟩ = some (.int .i64 0) := cell_of h0 3
  go_region
  go_wp2_with fail
  rw [rounds_succ]
  clear d3 z3 y3
  refine wp_seen (Four w T (K.plc key.data.toList 0 : Nat) (K.plc key.data.toList 1 : Nat) (K.plc key.data.toList 2 : Nat) (K.plc key.data.toList 3 : Nat)) ⟨(b0.setCell hT _).drew, hT, by rw [← m3.out]; exact heap_set h0 _⟩ ?_
  clear b0 hT h0 W m3
  rintro W ⟨b0, hT, h0⟩
  have y0 : W.cell? ⟨T, 0, none⟩ = some (.int .i64 (K.plc key.data.toList 0 : Nat)) := cell_of h0 0
  have y1 : W.cell? ⟨T, 1, none⟩ = some (.int .i64 (K.plc key.data.toList 1 : Nat)) := cell_of h0 1
  have y2 : W.cell? ⟨T, 2, none⟩ = some (.int .i64 (K.plc key.data.toList 2 : Nat)) := cell_of h0 2
  have y3 : W.cell? ⟨T, 3, none⟩ = some (.int .i64 (K.plc key.data.toList 3 : Nat)) := cell_of h0 3
  have z0 : W.frozen? ⟨T, 0, none⟩ = false := frozen_of h0 0
  have z1 : W.frozen? ⟨T, 1, none⟩ = false := frozen_of h0 1
  have z2 : W.frozen? ⟨T, 2, none⟩ = false := frozen_of h0 2
  have z3 : W.frozen? ⟨T, 3, none⟩ = false := frozen_of h0 3
  go_wp2_with fail
  refine post_seen (Four w T (K.plc key.data.toList 0 : Nat) (K.plc key.data.toList 1 : Nat) (K.plc key.data.toList 2 : Nat) (K.plc key.data.toList 3 : Nat)) ⟨(((b0.setCell hT _).setCell hT _).setCell hT _).setCell hT _, hT, heap_set (heap_set (heap_set (heap_set h0 _) _) _) _⟩ ?_
  clear b0 hT h0 y0 y1 y2 y3 z0 z1 z2 z3 W
  rintro W ⟨b0, hT, h0⟩
  have y0 : W.cell? ⟨T, 0, none⟩ = some (.int .i64 (K.plc key.data.toList 0 : Nat)) := cell_of h0 0
  have y1 : W.cell? ⟨T, 1, none⟩ = some (.int .i64 (K.plc key.data.toList 1 : Nat)) := cell_of h0 1
  have y2 : W.cell? ⟨T, 2, none⟩ = some (.int .i64 (K.plc key.data.toList 2 : Nat)) := cell_of h0 2
  have y3 : W.cell? ⟨T, 3, none⟩ = some (.int .i64 (K.plc key.data.toList 3 : Nat)) := cell_of h0 3
  exact bodyPost_ret (v := .agg #[.int .i64 (K.plc key.data.toList 0 : Nat), .int .i64 (K.plc key.data.toList 1 : Nat), .int .i64 (K.plc key.data.toList 2 : Nat), .int .i64 (K.plc key.data.toList 3 : Nat)]) (by simp [results, Try.results29, go_sem, y0, y1, y2, y3]) rfl ⟨rfl, b0⟩
theorem sPlaces_is {w : World} {p : Nat} {G Q : Nat → Nat} {K : Sk} (s : IsSk w p G Q K) (hK : K.Ok) (key : ByteArray) (hs : key.size ≤ maxLen) :
    Calls Try.prog 19 #[.pointer (some ⟨p, 0, none⟩), .string key] w fun e w' => e = .returned (.tuple #[.agg #[.int .i64 (K.plc key.data.toList 0 : Nat), .int .i64 (K.plc key.data.toList 1 : Nat), .int .i64 (K.plc key.data.toList 2 : Nat), .int .i64 (K.plc key.data.toList 3 : Nat)], .int .i64 0]) ∧ Below w.heap.size w w' := by
  have b0 : Below w.heap.size w (w.alloc (.cells #[.int .i64 0, .int .i64 0, .int .i64 0, .int .i64 0] 56)) := (Below.refl _ _).alloc (Nat.le_refl _) _
  have s0 := s.below b0
  have lt0 : w.heap.size < (w.alloc (.cells #[.int .i64 0, .int .i64 0, .int .i64 0, .int .i64 0] 56)).heap.size := by simp
  have h0 : (w.alloc (.cells #[.int .i64 0, .int .i64 0, .int .i64 0, .int .i64 0] 56)).heap[w.heap.size]? = some (.cells #[.int .i64 0, .int .i64 0, .int .i64 0, .int .i64 0] 56 (0, 0)) := heap_new rfl
  go_enter Try.func19, Try.ntmps19
  go_wp2_with (first | (go_at_call 28; refine (zero_is s0 hK).mono ?_; rintro e w1 ⟨rfl, rfl⟩) | (go_at_call 29; refine (places_is s0 hK key hs).mono ?_; rintro e w2 ⟨rfl, b2⟩; have h2 : w2.heap[w.heap.size]? = _ := (b2.block _ lt0).trans h0; have z0 : w2.frozen? ⟨w.heap.size, 0, none⟩ = false := frozen_of h2 0; have z1 : w2.frozen? ⟨w.heap.size, 1, none⟩ = false := frozen_of h2 1; have z2 : w2.frozen? ⟨w.heap.size, 2, none⟩ = false := frozen_of h2 2; have z3 : w2.frozen? ⟨w.heap.size, 3, none⟩ = false := frozen_of h2 3; have y0 : w2.cell? ⟨w.heap.size, 0, none⟩ = some (.int .i64 0) := cell_of h2 0; have y1 : w2.cell? ⟨w.heap.size, 1, none⟩ = some (.int .i64 0) := cell_of h2 1; have y2 : w2.cell? ⟨w.heap.size, 2, none⟩ = some (.int .i64 0) := cell_of h2 2; have y3 : w2.cell? ⟨w.heap.size, 3, none⟩ = some (.int .i64 0) := cell_of h2 3))
  refine post_seen (Four w w.heap.size (K.plc key.data.toList 0 : Nat) (K.plc key.data.toList 1 : Nat) (K.plc key.data.toList 2 : Nat) (K.plc key.data.toList 3 : Nat)) ⟨((((b0.trans (b2.mono b0.size)).setCell (Nat.le_refl _) _).setCell (Nat.le_refl _) _).setCell (Nat.le_refl _) _).setCell (Nat.le_refl _) _, Nat.le_refl _, heap_set (heap_set (heap_set (heap_set h2 _) _) _) _⟩ ?_
  clear b0 s0 lt0 h0 b2 h2 y0 y1 y2 y3 z0 z1 z2 z3 w2
  rintro W ⟨b0, hT, h0⟩
  have y0 : W.cell? ⟨w.heap.size, 0, none⟩ = some (.int .i64 (K.plc key.data.toList 0 : Nat)) := cell_of h0 0
  have y1 : W.cell? ⟨w.heap.size, 1, none⟩ = some (.int .i64 (K.plc key.data.toList 1 : Nat)) := cell_of h0 1
  have y2 : W.cell? ⟨w.heap.size, 2, none⟩ = some (.int .i64 (K.plc key.data.toList 2 : Nat)) := cell_of h0 2
  have y3 : W.cell? ⟨w.heap.size, 3, none⟩ = some (.int .i64 (K.plc key.data.toList 3 : Nat)) := cell_of h0 3
  exact bodyPost_ret (v := .tuple #[.agg #[.int .i64 (K.plc key.data.toList 0 : Nat), .int .i64 (K.plc key.data.toList 1 : Nat), .int .i64 (K.plc key.data.toList 2 : Nat), .int .i64 (K.plc key.data.toList 3 : Nat)], .int .i64 0]) (by simp [results, Try.results19, go_sem, y0, y1, y2, y3]) rfl ⟨rfl, b0⟩
theorem additions_is {w : World} {p : Nat} {G Q : Nat → Nat} {K : Sk} (s : IsSk w p G Q K) (hK : K.Ok) :
    Calls Try.prog 21 #[.pointer (some ⟨p, 0, none⟩)] w fun e w' => e = .returned (.int .i64 (K.a : Nat)) ∧ w = w' := by
  have c2 : w.cell? ⟨p, 2, none⟩ = some (.int .i64 (K.a : Nat)) := cell_of s.obj 2
  go_enter Try.func21, Try.ntmps21
  go_wp2_with (first | (go_at_call 28; refine (zero_is s hK).mono ?_; rintro e w1 ⟨rfl, rfl⟩))
  go_ret
  exact ⟨rfl, rfl⟩
set_option maxRecDepth 100000 in
theorem count_is {w : World} {p : Nat} {G Q : Nat → Nat} {K : Sk} (s : IsSk w p G Q K) (hK : K.Ok) (key : ByteArray) (hs : key.size ≤ maxLen) :
    Calls Try.prog 20 #[.pointer (some ⟨p, 0, none⟩), .string key] w fun e w' => e = .returned (.int .i64 (K.cnt key.data.toList : Nat)) ∧ Below w.heap.size w w' := by
  go_enter Try.func20, Try.ntmps20
  go_wp2_with (first | (go_at_call 28; refine (zero_is s hK).mono ?_; rintro e w1 ⟨rfl, rfl⟩) | (go_at_call 29; refine (places_is s hK key hs).mono ?_; rintro e w2 ⟨rfl, b2⟩; have s2 := s.below b2))
  have i0 := index56_0
  have i1 := index56_1
  have i2 := index56_2
  have i3 := index56_3
  have d0 := hK.small 0 (K.plc key.data.toList 0)
  have d1 := hK.small 1 (K.plc key.data.toList 1)
  have d2 := hK.small 2 (K.plc key.data.toList 2)
  have d3 := hK.small 3 (K.plc key.data.toList 3)
  refine wp_loop_rounds 5 ?_
  rw [rounds_succ]
  all_goals go_wp2_with (first | (go_at_call 30; refine (at_is (r := 0) s2 hK (by omega) (Sk.plc_lt hK key.data.toList 0)).mono ?_; rintro e w1 ⟨rfl, rfl⟩))
  all_goals rw [rounds_succ]
  all_goals go_wp2_with (first | (go_at_call 30; refine (at_is (r := 1) s2 hK (by omega) (Sk.plc_lt hK key.data.toList 1)).mono ?_; rintro e w1 ⟨rfl, rfl⟩))
  all_goals rw [rounds_succ]
  all_goals go_wp2_with (first | (go_at_call 30; refine (at_is (r := 2) s2 hK (by omega) (Sk.plc_lt hK key.data.toList 2)).mono ?_; rintro e w1 ⟨rfl, rfl⟩))
  all_goals rw [rounds_succ]
  all_goals go_wp2_with (first | (go_at_call 30; refine (at_is (r := 3) s2 hK (by omega) (Sk.plc_lt hK key.data.toList 3)).mono ?_; rintro e w1 ⟨rfl, rfl⟩))
  all_goals rw [rounds_succ]
  all_goals go_wp2_with fail
  all_goals go_ret
  all_goals exact ⟨ret_i64 (by unfold Sk.cnt; omega), b2⟩
end Go.Proofs.Ytffniljefbpoiaa
