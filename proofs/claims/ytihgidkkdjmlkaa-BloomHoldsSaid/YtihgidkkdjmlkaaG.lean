/-
  OnesCount of any word: how many bits it has.
-/
import Derived.Test.YtihgidkkdjmlkaaF
namespace Go.Proofs.Ytihgidkkdjmlkaa
open Go.ChangeShapes Go.WideShapes Go.ChangeAt Go.RowKit
set_option linter.unusedVariables false

def ones1 (x : Int) : Int := IntKind.u64.wrap (bits .and .u64 (x / 2) 6148914691236517205 + bits .and .u64 x 6148914691236517205)
def ones2 (x : Int) : Int := IntKind.u64.wrap (bits .and .u64 (x / 4) 3689348814741910323 + bits .and .u64 x 3689348814741910323)
def ones3 (x : Int) : Int := bits .and .u64 (IntKind.u64.wrap (x / 16 + x)) 1085102592571150095
def ones4 (x : Int) : Int := IntKind.u64.wrap (x + x / 256)
def ones5 (x : Int) : Int := IntKind.u64.wrap (x + x / 65536)
def ones6 (x : Int) : Int := IntKind.u64.wrap (x + x / 4294967296)
def onesE (x : Int) : Int := bits .and .i64 (wrap64 (ones6 (ones5 (ones4 (ones3 (ones2 (ones1 x))))))) 127
set_option maxRecDepth 100000 in
theorem ones64' (x : Int) (h0 : 0 ≤ x) (h1 : x < 18446744073709551616) (w : World) : Calls Try.prog 38 #[.int .u64 x] w fun e w' => e = .returned (.int .i64 (onesE x)) ∧ w = w' := by
  have f1 : ∀ y, 0 ≤ ones1 y ∧ ones1 y < 18446744073709551616 := fun y => wrap_word _
  have f2 : ∀ y, 0 ≤ ones2 y ∧ ones2 y < 18446744073709551616 := fun y => wrap_word _
  have f3 : ∀ y, 0 ≤ ones3 y ∧ ones3 y < 18446744073709551616 := fun y => wrap_word _
  go_enter Try.func38, Try.ntmps38
  go_wp2_with fail
  go_ret
  exact ⟨rfl, rfl⟩
theorem ones' (x : Int) (h0 : 0 ≤ x) (h1 : x < 18446744073709551616) (w : World) : Calls Try.prog 28 #[.int .u64 x] w fun e w' => e = .returned (.int .i64 (onesE x)) ∧ w = w' := by
  go_enter Try.func28, Try.ntmps28
  go_wp2_with (first | (go_at_call 38; refine (ones64' x h0 h1 _).mono ?_; rintro e w' ⟨rfl, rfl⟩))
  go_ret
  exact ⟨rfl, rfl⟩
theorem ones1_nat (n : Nat) (h : n < 18446744073709551616) : ones1 (n : Int) = ((onesN1 n : Nat) : Int) := by
  have b := sumN_lt (w := 2) (g := d1 n) (fun j => by have := d1_le n j; omega) 32
  rw [← onesN1_is, show (2 : Nat) ^ (2 * 32) = 18446744073709551616 from rfl] at b
  unfold onesN1 at b
  unfold ones1 onesN1
  rw [show (n : Int) / 2 = ((n / 2 : Nat) : Int) by omega, show (6148914691236517205 : Int) = ((6148914691236517205 : Nat) : Int) from rfl, u64_and_nat _ _ (by omega) (by omega), u64_and_nat _ _ (by omega) (by omega), IntKind.wrap_u64]
  omega
theorem ones2_nat (n : Nat) : ones2 ((sumN 2 (d1 n) 32 : Nat) : Int) = ((onesN2 (sumN 2 (d1 n) 32) : Nat) : Int) := by
  have a := sumN_lt (w := 2) (g := d1 n) (fun j => by have := d1_le n j; omega) 32
  have b := sumN_lt (w := 4) (g := d2 n) (fun j => by have := d2_le n j; omega) 16
  rw [show (2 : Nat) ^ (2 * 32) = 18446744073709551616 from rfl] at a
  rw [← onesN2_is, show (2 : Nat) ^ (4 * 16) = 18446744073709551616 from rfl] at b
  generalize sumN 2 (d1 n) 32 = x at *
  unfold onesN2 at b
  unfold ones2 onesN2
  rw [show (x : Int) / 4 = ((x / 4 : Nat) : Int) by omega, show (3689348814741910323 : Int) = ((3689348814741910323 : Nat) : Int) from rfl, u64_and_nat _ _ (by omega) (by omega), u64_and_nat _ _ (by omega) (by omega), IntKind.wrap_u64]
  omega
theorem ones3_nat (n : Nat) : ones3 ((sumN 4 (d2 n) 16 : Nat) : Int) = ((onesN3 (sumN 4 (d2 n) 16) : Nat) : Int) := by
  have b := sumN_lt (w := 4) (g := fun j => (if j < 15 then d2 n (j + 1) else 0) + d2 n j) (fun j => by have := d2_le n j; have := d2_le n (j + 1); show (if j < 15 then d2 n (j + 1) else 0) + d2 n j < _; split <;> omega) 16
  rw [← onesN3_mid, show (2 : Nat) ^ (4 * 16) = 18446744073709551616 from rfl] at b
  generalize sumN 4 (d2 n) 16 = x at *
  unfold ones3 onesN3
  rw [show IntKind.u64.wrap ((x : Int) / 16 + (x : Int)) = ((x / 16 + x : Nat) : Int) by rw [IntKind.wrap_u64]; omega, show (1085102592571150095 : Int) = ((1085102592571150095 : Nat) : Int) from rfl, u64_and_nat _ _ (by omega) (by omega)]
theorem sum8_lt (e : Nat → Nat) (h : ∀ j, e j ≤ 8) : sumN 8 e 8 < 1152921504606846976 := by
  have h0 := h 0
  have h1 := h 1
  have h2 := h 2
  have h3 := h 3
  have h4 := h 4
  have h5 := h 5
  have h6 := h 6
  have h7 := h 7
  simp only [sumN, Nat.reduceMul, Nat.reducePow]
  omega
theorem ones4_nat (n : Nat) (h : n < 1152921504606846976) : ones4 (n : Int) = ((onesN4 n : Nat) : Int) ∧ onesN4 n < 2305843009213693952 := by
  refine ⟨?_, by unfold onesN4; omega⟩
  unfold ones4 onesN4
  rw [IntKind.wrap_u64]; omega
theorem ones5_nat (n : Nat) (h : n < 2305843009213693952) : ones5 (n : Int) = ((onesN5 n : Nat) : Int) ∧ onesN5 n < 4611686018427387904 := by
  refine ⟨?_, by unfold onesN5; omega⟩
  unfold ones5 onesN5
  rw [IntKind.wrap_u64]; omega
theorem ones6_nat (n : Nat) (h : n < 4611686018427387904) : ones6 (n : Int) = ((onesN6 n : Nat) : Int) ∧ onesN6 n < 9223372036854775807 := by
  refine ⟨?_, by unfold onesN6; omega⟩
  unfold ones6 onesN6
  rw [IntKind.wrap_u64]; omega
theorem ones_nat (n : Nat) (h : n < 18446744073709551616) : onesE (n : Int) = ((onesN n : Nat) : Int) := by
  obtain ⟨e4, b4⟩ := ones4_nat (sumN 8 (d3 n) 8) (sum8_lt _ (d3_le n))
  obtain ⟨e5, b5⟩ := ones5_nat _ b4
  obtain ⟨e6, b6⟩ := ones6_nat _ b5
  unfold onesE onesN
  rw [ones1_nat n h, onesN1_is, ones2_nat, onesN2_is, ones3_nat, onesN3_is, e4, e5, e6, wrap_in (by omega)]
  have := i64_and127 ((onesN6 (onesN5 (onesN4 (sumN 8 (d3 n) 8))) : Nat) : Int)
  rw [this]
  omega
theorem ones64 (n : Nat) (h : n < 18446744073709551616) (w : World) : Calls Try.prog 38 #[.int .u64 (n : Nat)] w fun e w' => e = .returned (.int .i64 (onesN n : Nat)) ∧ w = w' :=
  (ones64' n (by omega) (by omega) w).mono fun e w' ⟨h1, h2⟩ => ⟨by rw [h1, ones_nat n h], h2⟩
theorem ones (n : Nat) (h : n < 18446744073709551616) (w : World) : Calls Try.prog 28 #[.int .u64 (n : Nat)] w fun e w' => e = .returned (.int .i64 (onesN n : Nat)) ∧ w = w' :=
  (ones' n (by omega) (by omega) w).mono fun e w' ⟨h1, h2⟩ => ⟨by rw [h1, ones_nat n h], h2⟩
/-- The sizes that are allowed. -/
def sizeB (n : Nat) : Bool := n == 64 || n == 128 || n == 256 || n == 512 || n == 1024 || n == 2048 || n == 4096 || n == 8192 || n == 16384 || n == 32768 || n == 65536 || n == 131072 || n == 262144 || n == 524288 || n == 1048576
theorem size_pow {n : Nat} : sizeB n = true ↔ ∃ e, 6 ≤ e ∧ e ≤ 20 ∧ n = 2 ^ e := by
  constructor
  · intro h
    simp only [sizeB, Bool.or_eq_true, beq_iff_eq] at h
    rcases h with (((((((((((((h | h) | h) | h) | h) | h) | h) | h) | h) | h) | h) | h) | h) | h) | h
    · exact ⟨6, by omega, by omega, h⟩
    · exact ⟨7, by omega, by omega, h⟩
    · exact ⟨8, by omega, by omega, h⟩
    · exact ⟨9, by omega, by omega, h⟩
    · exact ⟨10, by omega, by omega, h⟩
    · exact ⟨11, by omega, by omega, h⟩
    · exact ⟨12, by omega, by omega, h⟩
    · exact ⟨13, by omega, by omega, h⟩
    · exact ⟨14, by omega, by omega, h⟩
    · exact ⟨15, by omega, by omega, h⟩
    · exact ⟨16, by omega, by omega, h⟩
    · exact ⟨17, by omega, by omega, h⟩
    · exact ⟨18, by omega, by omega, h⟩
    · exact ⟨19, by omega, by omega, h⟩
    · exact ⟨20, by omega, by omega, h⟩
  · rintro ⟨e, h1, h2, rfl⟩
    have : ∀ e : Fin 21, 6 ≤ e.val → sizeB (2 ^ e.val) = true := by decide +kernel
    exact this ⟨e, by omega⟩ h1
theorem size_ones {n : Nat} (h1 : 64 ≤ n) (h2 : n ≤ 1048576) : onesN n = 1 ↔ sizeB n = true := by
  rw [onesN_one (by omega), size_pow]
  constructor
  · rintro ⟨k, _, rfl⟩
    refine ⟨k, ?_, ?_, rfl⟩
    · apply Decidable.byContradiction
      intro q
      have : 2 ^ k ≤ 2 ^ 5 := Nat.pow_le_pow_right (by omega) (by omega)
      omega
    · apply Decidable.byContradiction
      intro q
      have : 2 ^ 21 ≤ 2 ^ k := Nat.pow_le_pow_right (by omega) (by omega)
      omega
  · rintro ⟨e, h3, h4, rfl⟩
    exact ⟨e, by omega, rfl⟩
end Go.Proofs.Ytihgidkkdjmlkaa
