/-
  OnesCount of a width is one if, and only if, the width is a power of two.
-/
import Derived.Test.YtffniljefbpoiaaC
import Derived.Laws.Bits128
namespace Go.Proofs.Ytffniljefbpoiaa
open Go.ChangeShapes Go.WideShapes Go.ChangeAt Go.RowKit
set_option linter.unusedVariables false

def ones1 (x : Int) : Int := IntKind.u64.wrap (bits .and .u64 (x / 2) 6148914691236517205 + bits .and .u64 x 6148914691236517205)
def ones2 (x : Int) : Int := IntKind.u64.wrap (bits .and .u64 (x / 4) 3689348814741910323 + bits .and .u64 x 3689348814741910323)
def ones3 (x : Int) : Int := bits .and .u64 (IntKind.u64.wrap (x / 16 + x)) 1085102592571150095
def ones4 (x : Int) : Int := IntKind.u64.wrap (x + x / 256)
def ones5 (x : Int) : Int := IntKind.u64.wrap (x + x / 65536)
def ones6 (x : Int) : Int := IntKind.u64.wrap (x + x / 4294967296)
def onesE (x : Int) : Int := bits .and .i64 (wrap64 (ones6 (ones5 (ones4 (ones3 (ones2 (ones1 x))))))) 127
set_option maxRecDepth 100000 in
theorem ones64 (x : Int) (h0 : 0 ≤ x) (h1 : x < 18446744073709551616) (w : World) : Calls Try.prog 36 #[.int .u64 x] w fun e w' => e = .returned (.int .i64 (onesE x)) ∧ w = w' := by
  have f1 : ∀ y, 0 ≤ ones1 y ∧ ones1 y < 18446744073709551616 := fun y => wrap_word _
  have f2 : ∀ y, 0 ≤ ones2 y ∧ ones2 y < 18446744073709551616 := fun y => wrap_word _
  have f3 : ∀ y, 0 ≤ ones3 y ∧ ones3 y < 18446744073709551616 := fun y => wrap_word _
  go_enter Try.func36, Try.ntmps36
  go_wp2_with fail
  go_ret
  exact ⟨rfl, rfl⟩
theorem ones (x : Int) (h0 : 0 ≤ x) (h1 : x < 18446744073709551616) (w : World) : Calls Try.prog 26 #[.int .u64 x] w fun e w' => e = .returned (.int .i64 (onesE x)) ∧ w = w' := by
  go_enter Try.func26, Try.ntmps26
  go_wp2_with (first | (go_at_call 36; refine (ones64 x h0 h1 _).mono ?_; rintro e w' ⟨rfl, rfl⟩))
  go_ret
  exact ⟨rfl, rfl⟩
def onesN1 (n : Nat) : Nat := (n / 2 &&& 6148914691236517205) + (n &&& 6148914691236517205)
def onesN2 (n : Nat) : Nat := (n / 4 &&& 3689348814741910323) + (n &&& 3689348814741910323)
def onesN3 (n : Nat) : Nat := (n / 16 + n) &&& 1085102592571150095
def onesN4 (n : Nat) : Nat := n + n / 256
def onesN5 (n : Nat) : Nat := n + n / 65536
def onesN6 (n : Nat) : Nat := n + n / 4294967296
def onesN (n : Nat) : Nat := onesN6 (onesN5 (onesN4 (onesN3 (onesN2 (onesN1 n))))) % 128
theorem ones1_nat (n : Nat) (h : n < 1099511627776) : ones1 (n : Int) = ((onesN1 n : Nat) : Int) ∧ onesN1 n ≤ 2 * n := by
  have a := Nat.and_le_left (n := n / 2) (m := 6148914691236517205)
  have b := Nat.and_le_left (n := n) (m := 6148914691236517205)
  refine ⟨?_, by unfold onesN1; omega⟩
  unfold ones1 onesN1
  rw [show (n : Int) / 2 = ((n / 2 : Nat) : Int) by omega, show (6148914691236517205 : Int) = ((6148914691236517205 : Nat) : Int) from rfl, u64_and_nat _ _ (by omega) (by omega), u64_and_nat _ _ (by omega) (by omega), IntKind.wrap_u64]
  omega
theorem ones2_nat (n : Nat) (h : n < 1099511627776) : ones2 (n : Int) = ((onesN2 n : Nat) : Int) ∧ onesN2 n ≤ 2 * n := by
  have a := Nat.and_le_left (n := n / 4) (m := 3689348814741910323)
  have b := Nat.and_le_left (n := n) (m := 3689348814741910323)
  refine ⟨?_, by unfold onesN2; omega⟩
  unfold ones2 onesN2
  rw [show (n : Int) / 4 = ((n / 4 : Nat) : Int) by omega, show (3689348814741910323 : Int) = ((3689348814741910323 : Nat) : Int) from rfl, u64_and_nat _ _ (by omega) (by omega), u64_and_nat _ _ (by omega) (by omega), IntKind.wrap_u64]
  omega
theorem ones3_nat (n : Nat) (h : n < 1099511627776) : ones3 (n : Int) = ((onesN3 n : Nat) : Int) ∧ onesN3 n ≤ 2 * n := by
  have a := Nat.and_le_left (n := n / 16 + n) (m := 1085102592571150095)
  refine ⟨?_, by unfold onesN3; omega⟩
  unfold ones3 onesN3
  rw [show IntKind.u64.wrap ((n : Int) / 16 + (n : Int)) = ((n / 16 + n : Nat) : Int) by rw [IntKind.wrap_u64]; omega, show (1085102592571150095 : Int) = ((1085102592571150095 : Nat) : Int) from rfl, u64_and_nat _ _ (by omega) (by omega)]
theorem ones4_nat (n : Nat) (h : n < 1099511627776) : ones4 (n : Int) = ((onesN4 n : Nat) : Int) ∧ onesN4 n ≤ 2 * n := by
  refine ⟨?_, by unfold onesN4; omega⟩
  unfold ones4 onesN4
  rw [IntKind.wrap_u64]; omega
theorem ones5_nat (n : Nat) (h : n < 1099511627776) : ones5 (n : Int) = ((onesN5 n : Nat) : Int) ∧ onesN5 n ≤ 2 * n := by
  refine ⟨?_, by unfold onesN5; omega⟩
  unfold ones5 onesN5
  rw [IntKind.wrap_u64]; omega
theorem ones6_nat (n : Nat) (h : n < 1099511627776) : ones6 (n : Int) = ((onesN6 n : Nat) : Int) ∧ onesN6 n ≤ 2 * n := by
  refine ⟨?_, by unfold onesN6; omega⟩
  unfold ones6 onesN6
  rw [IntKind.wrap_u64]; omega
theorem ones_nat (n : Nat) (h : n < 16777216) : onesE (n : Int) = ((onesN n : Nat) : Int) := by
  obtain ⟨e1, b1⟩ := ones1_nat n (by omega)
  obtain ⟨e2, b2⟩ := ones2_nat (onesN1 n) (by omega)
  obtain ⟨e3, b3⟩ := ones3_nat (onesN2 (onesN1 n)) (by omega)
  obtain ⟨e4, b4⟩ := ones4_nat (onesN3 (onesN2 (onesN1 n))) (by omega)
  obtain ⟨e5, b5⟩ := ones5_nat (onesN4 (onesN3 (onesN2 (onesN1 n)))) (by omega)
  obtain ⟨e6, b6⟩ := ones6_nat (onesN5 (onesN4 (onesN3 (onesN2 (onesN1 n))))) (by omega)
  unfold onesE onesN
  rw [e1, e2, e3, e4, e5, e6, wrap_in (by omega)]
  have := i64_and127 ((onesN6 (onesN5 (onesN4 (onesN3 (onesN2 (onesN1 n))))) : Nat) : Int)
  rw [this]
  omega
def allB (f : Nat → Bool) : Nat → Bool
  | 0 => true
  | n + 1 => f n && allB f n
theorem allB_all {f : Nat → Bool} : ∀ {n i : Nat}, allB f n = true → i < n → f i = true
  | 0, i, _, h => by omega
  | n + 1, i, h, hi => by
    have h' : (f n && allB f n) = true := h
    rw [Bool.and_eq_true] at h'
    by_cases e : i = n
    · rw [e]; exact h'.1
    · exact allB_all h'.2 (by omega)
/-- The widths that are allowed. -/
def widthB (n : Nat) : Bool := n == 16 || n == 32 || n == 64 || n == 128 || n == 256 || n == 512 || n == 1024 || n == 2048 || n == 4096 || n == 8192 || n == 16384 || n == 32768 || n == 65536
def onesOk (n : Nat) : Bool := if Nat.beq (onesN n) 1 = true then (Nat.blt n 16 || widthB n) else true
def onesRow (a : Nat) : Bool := allB (fun b => onesOk (256 * a + b)) 256
theorem ones_tab : allB onesRow 257 = true := by decide +kernel
theorem ones_ok (n : Nat) (h1 : n ≤ 65536) : onesOk n = true := by
  have h : onesRow (n / 256) = true := allB_all ones_tab (by omega)
  unfold onesRow at h
  have h2 := allB_all h (i := n % 256) (by omega)
  rw [show 256 * (n / 256) + n % 256 = n by omega] at h2
  exact h2
theorem ones_back {n : Nat} (h : widthB n = true) : onesN n = 1 := by
  simp only [widthB, Bool.or_eq_true, beq_iff_eq] at h
  rcases h with (((((((((((h | h) | h) | h) | h) | h) | h) | h) | h) | h) | h) | h) | h <;> subst h <;> decide +kernel
theorem ones_iff (n : Nat) (h0 : 16 ≤ n) (h1 : n ≤ 65536) : onesN n = 1 ↔ widthB n = true := by
  refine ⟨fun e => ?_, ones_back⟩
  have h := ones_ok n h1
  unfold onesOk at h
  rw [e, if_pos (by decide)] at h
  have h2 : Nat.blt n 16 = false := by
    cases q : Nat.blt n 16 with
    | false => rfl
    | true => have := Nat.blt_eq.mp q; omega
  rw [h2, Bool.false_or] at h
  exact h
theorem width_pow {n : Nat} (h : widthB n = true) : ∃ e, 4 ≤ e ∧ e ≤ 16 ∧ n = 2 ^ e := by
  simp only [widthB, Bool.or_eq_true, beq_iff_eq] at h
  rcases h with (((((((((((h | h) | h) | h) | h) | h) | h) | h) | h) | h) | h) | h) | h
  · exact ⟨4, by omega, by omega, h⟩
  · exact ⟨5, by omega, by omega, h⟩
  · exact ⟨6, by omega, by omega, h⟩
  · exact ⟨7, by omega, by omega, h⟩
  · exact ⟨8, by omega, by omega, h⟩
  · exact ⟨9, by omega, by omega, h⟩
  · exact ⟨10, by omega, by omega, h⟩
  · exact ⟨11, by omega, by omega, h⟩
  · exact ⟨12, by omega, by omega, h⟩
  · exact ⟨13, by omega, by omega, h⟩
  · exact ⟨14, by omega, by omega, h⟩
  · exact ⟨15, by omega, by omega, h⟩
  · exact ⟨16, by omega, by omega, h⟩
end Go.Proofs.Ytffniljefbpoiaa
