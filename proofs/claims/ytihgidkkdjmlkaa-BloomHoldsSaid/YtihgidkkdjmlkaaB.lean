/-
  The plain law of Bloom filters: sixty-four bits in one word, and how many of a word's bits are set.
-/
import Derived.Test.YtihgidkkdjmlkaaA
namespace Go.Proofs.Ytihgidkkdjmlkaa
open Go.ChangeShapes Go.WideShapes Go.ChangeAt Go.RowKit
set_option linter.unusedVariables false

/-- Sixty-four bits in a word. -/
def packN (f : Nat → Bool) (k : Nat) : Nat → Nat
  | 0 => 0
  | j + 1 => packN f k j + (f (64 * k + j)).toNat * 2 ^ j
def pack (f : Nat → Bool) (k : Nat) : Nat := packN f k 64
theorem toNat_le (b : Bool) : b.toNat ≤ 1 := by cases b <;> decide
theorem packN_lt (f : Nat → Bool) (k : Nat) : ∀ m, packN f k m < 2 ^ m
  | 0 => by simp [packN]
  | m + 1 => by
    have ih := packN_lt f k m
    have : (f (64 * k + m)).toNat * 2 ^ m ≤ 1 * 2 ^ m := Nat.mul_le_mul_right _ (toNat_le _)
    show packN f k m + (f (64 * k + m)).toNat * 2 ^ m < _
    rw [Nat.pow_succ]; omega
theorem pack_lt (f : Nat → Bool) (k : Nat) : pack f k < 18446744073709551616 := packN_lt f k 64
theorem toNat_testBit (b : Bool) (i : Nat) : b.toNat.testBit i = (decide (i = 0) && b) := by
  cases b
  · simp
  · cases i <;> simp [Nat.testBit_succ]
theorem packN_testBit (f : Nat → Bool) (k : Nat) : ∀ m i, (packN f k m).testBit i = (decide (i < m) && f (64 * k + i))
  | 0, i => by simp [packN]
  | m + 1, i => by
    show (packN f k m + (f (64 * k + m)).toNat * 2 ^ m).testBit i = _
    rw [Nat.add_comm, Nat.mul_comm, Nat.testBit_two_pow_mul_add _ (packN_lt f k m), packN_testBit f k m i, toNat_testBit]
    by_cases h : i < m
    · simp [h, show i < m + 1 by omega]
    · by_cases e : i = m
      · subst e; simp
      · simp [h, show ¬ i - m = 0 by omega, show ¬ i < m + 1 by omega]
theorem pack_testBit (f : Nat → Bool) (k i : Nat) : (pack f k).testBit i = (decide (i < 64) && f (64 * k + i)) := packN_testBit f k 64 i
theorem pack_or (f g : Nat → Bool) (k : Nat) : pack (fun i => f i || g i) k = pack f k ||| pack g k := by
  apply Nat.eq_of_testBit_eq
  intro i
  rw [Nat.testBit_or, pack_testBit, pack_testBit, pack_testBit]
  cases decide (i < 64) <;> simp
/-- One bit set. -/
def setB (f : Nat → Bool) (p : Nat) : Nat → Bool := fun i => f i || decide (i = p)
theorem pack_set (f : Nat → Bool) (p : Nat) : pack (setB f p) (p / 64) = pack f (p / 64) ||| 2 ^ (p % 64) := by
  apply Nat.eq_of_testBit_eq
  intro i
  rw [Nat.testBit_or, pack_testBit, pack_testBit, Nat.testBit_two_pow]
  unfold setB
  by_cases h : i < 64
  · have : decide (64 * (p / 64) + i = p) = decide (p % 64 = i) := by
      rw [decide_eq_decide]; omega
    simp [h, this]
  · simp [h]; omega
theorem pack_other (f : Nat → Bool) (p k : Nat) (h : k ≠ p / 64) : pack (setB f p) k = pack f k := by
  apply Nat.eq_of_testBit_eq
  intro i
  rw [pack_testBit, pack_testBit]
  unfold setB
  by_cases hi : i < 64
  · have : ¬ (64 * k + i = p) := by omega
    simp [hi, this]
  · simp [hi]
theorem pack_bit (f : Nat → Bool) (p : Nat) : pack f (p / 64) / 2 ^ (p % 64) % 2 = (f p).toNat := by
  rw [← Nat.toNat_testBit, pack_testBit, show 64 * (p / 64) + p % 64 = p by omega]
  simp [Nat.mod_lt]
theorem packN_inc (f : Nat → Bool) (p k : Nat) (h : f p = false) : ∀ m, packN (setB f p) k m = packN f k m + if 64 * k ≤ p ∧ p < 64 * k + m then 2 ^ (p - 64 * k) else 0
  | 0 => by rw [if_neg (by omega)]; rfl
  | m + 1 => by
    show packN (setB f p) k m + (setB f p (64 * k + m)).toNat * 2 ^ m = (packN f k m + (f (64 * k + m)).toNat * 2 ^ m) + _
    rw [packN_inc f p k h m]
    unfold setB
    by_cases e : 64 * k + m = p
    · subst e
      rw [if_neg (by omega), if_pos (by omega), show 64 * k + m - 64 * k = m by omega, h]; simp
    · by_cases q : 64 * k ≤ p ∧ p < 64 * k + m
      · rw [if_pos q, if_pos (by omega)]; simp [e]; omega
      · rw [if_neg q, if_neg (by omega)]; simp [e]
theorem pack_inc (f : Nat → Bool) (p : Nat) (h : f p = false) : pack (setB f p) (p / 64) = pack f (p / 64) + 2 ^ (p % 64) := by
  unfold pack
  rw [packN_inc f p _ h, if_pos (by omega), show p - 64 * (p / 64) = p % 64 by omega]
theorem pack_congr {f g : Nat → Bool} {k : Nat} (h : ∀ i, i < 64 → f (64 * k + i) = g (64 * k + i)) : pack f k = pack g k := by
  apply Nat.eq_of_testBit_eq
  intro i
  rw [pack_testBit, pack_testBit]
  by_cases hi : i < 64
  · rw [h i hi]
  · simp [hi]
theorem pack_none (k : Nat) : pack (fun _ => false) k = 0 := by
  apply Nat.eq_of_testBit_eq
  intro i
  rw [pack_testBit]; simp

/-- Sums. -/
def sm (f : Nat → Nat) : Nat → Nat
  | 0 => 0
  | m + 1 => sm f m + f m
theorem sm_congr {f g : Nat → Nat} : ∀ {m}, (∀ i, i < m → f i = g i) → sm f m = sm g m
  | 0, _ => rfl
  | m + 1, h => by show sm f m + f m = sm g m + g m; rw [sm_congr (fun i hi => h i (by omega)), h m (by omega)]
theorem sm_pairs (f : Nat → Nat) : ∀ m, sm (fun j => f (2 * j + 1) + f (2 * j)) m = sm f (2 * m)
  | 0 => rfl
  | m + 1 => by
    show sm (fun j => f (2 * j + 1) + f (2 * j)) m + (f (2 * m + 1) + f (2 * m)) = sm f (2 * m) + f (2 * m) + f (2 * m + 1)
    rw [sm_pairs f m]; omega
theorem sm_add (f : Nat → Nat) (a : Nat) : ∀ m, sm f (a + m) = sm f a + sm (fun i => f (a + i)) m
  | 0 => by simp [sm]
  | m + 1 => by
    show sm f (a + m) + f (a + m) = sm f a + (sm (fun i => f (a + i)) m + f (a + m))
    rw [sm_add f a m]; omega
/-- A number by its digits of w bits. -/
def sumN (w : Nat) (g : Nat → Nat) : Nat → Nat
  | 0 => 0
  | m + 1 => sumN w g m + g m * 2 ^ (w * m)
theorem sumN_lt {w : Nat} {g : Nat → Nat} (h : ∀ j, g j < 2 ^ w) : ∀ m, sumN w g m < 2 ^ (w * m)
  | 0 => by simp [sumN]
  | m + 1 => by
    have ih := sumN_lt h m
    have h1 : g m + 1 ≤ 2 ^ w := h m
    have h2 : (g m + 1) * 2 ^ (w * m) ≤ 2 ^ w * 2 ^ (w * m) := Nat.mul_le_mul_right _ h1
    rw [← Nat.pow_add, Nat.add_mul] at h2
    show sumN w g m + g m * 2 ^ (w * m) < _
    rw [show w * (m + 1) = w + w * m by rw [Nat.mul_add]; omega]; omega
theorem sumN_testBit {w : Nat} {g : Nat → Nat} (hw : 0 < w) (h : ∀ j, g j < 2 ^ w) : ∀ m i, (sumN w g m).testBit i = (decide (i < w * m) && (g (i / w)).testBit (i % w))
  | 0, i => by simp [sumN]
  | m + 1, i => by
    show (sumN w g m + g m * 2 ^ (w * m)).testBit i = _
    rw [Nat.add_comm, Nat.mul_comm (g m), Nat.testBit_two_pow_mul_add _ (sumN_lt h m), sumN_testBit hw h m i, Nat.mul_add, Nat.mul_one]
    by_cases q : i < w * m
    · rw [if_pos q]; simp [q, show i < w * m + w by omega]
    · rw [if_neg q]
      by_cases q2 : i < w * m + w
      · have e1 : i / w = m := by rw [show i = (i - w * m) + w * m by omega, Nat.add_mul_div_left _ _ hw, Nat.div_eq_of_lt (by omega)]; omega
        have e2 : i % w = i - w * m := by
          have := Nat.div_add_mod i w
          rw [e1] at this; omega
        rw [e1, e2]; simp [q2]
      · have : (g m).testBit (i - w * m) = false := Nat.testBit_lt_two_pow (Nat.lt_of_lt_of_le (h m) (Nat.pow_le_pow_right (by omega) (by omega)))
        rw [this]; simp [q2]
theorem sumN_digit {w : Nat} {g : Nat → Nat} (hw : 0 < w) (h : ∀ j, g j < 2 ^ w) {m j : Nat} (hj : j < m) : sumN w g m / 2 ^ (w * j) % 2 ^ w = g j := by
  apply Nat.eq_of_testBit_eq
  intro i
  rw [Nat.testBit_mod_two_pow, Nat.testBit_div_two_pow, sumN_testBit hw h]
  by_cases hi : i < w
  · have e1 : (i + w * j) / w = j := by rw [Nat.add_mul_div_left _ _ hw, Nat.div_eq_of_lt hi]; omega
    have e2 : (i + w * j) % w = i := by rw [Nat.add_mul_mod_self_left, Nat.mod_eq_of_lt hi]
    have e3 : i + w * j < w * m := by
      have : w * (j + 1) ≤ w * m := Nat.mul_le_mul_left _ hj
      rw [Nat.mul_add, Nat.mul_one] at this; omega
    rw [e1, e2]; simp [hi, e3]
  · have : (g j).testBit i = false := Nat.testBit_lt_two_pow (Nat.lt_of_lt_of_le (h j) (Nat.pow_le_pow_right (by omega) (by omega)))
    rw [this]; simp [hi]
theorem sumN_congr {w : Nat} {f g : Nat → Nat} : ∀ {m}, (∀ i, i < m → f i = g i) → sumN w f m = sumN w g m
  | 0, _ => rfl
  | m + 1, h => by show sumN w f m + f m * _ = sumN w g m + g m * _; rw [sumN_congr (fun i hi => h i (by omega)), h m (by omega)]
theorem sumN_add (w : Nat) (f g : Nat → Nat) : ∀ m, sumN w f m + sumN w g m = sumN w (fun j => f j + g j) m
  | 0 => rfl
  | m + 1 => by
    show (sumN w f m + f m * _) + (sumN w g m + g m * _) = sumN w (fun j => f j + g j) m + (f m + g m) * _
    rw [← sumN_add w f g m, Nat.add_mul]; omega
theorem mask_sum {w v m M : Nat} (hw : 0 < w) (hv : v ≤ w) (hM : ∀ i, M.testBit i = (decide (i < w * m) && decide (i % w < v))) (n s : Nat) :
    (n / 2 ^ s) &&& M = sumN w (fun j => n / 2 ^ (s + w * j) % 2 ^ v) m := by
  apply Nat.eq_of_testBit_eq
  intro i
  have hd : ∀ j, n / 2 ^ (s + w * j) % 2 ^ v < 2 ^ w := fun j => Nat.lt_of_lt_of_le (Nat.mod_lt _ (Nat.pow_pos (by omega))) (Nat.pow_le_pow_right (by omega) hv)
  rw [Nat.testBit_and, Nat.testBit_div_two_pow, hM, sumN_testBit hw hd, Nat.testBit_mod_two_pow, Nat.testBit_div_two_pow]
  have := Nat.div_add_mod i w
  rw [show i % w + (s + w * (i / w)) = i + s by omega]
  cases decide (i < w * m) <;> cases decide (i % w < v) <;> simp
theorem high_bit {M : Nat} (h : M < 2 ^ 64) {i : Nat} (hi : ¬ i < 64) : M.testBit i = false := Nat.testBit_lt_two_pow (Nat.lt_of_lt_of_le h (Nat.pow_le_pow_right (by omega) (by omega)))
theorem mask5 (i : Nat) : (6148914691236517205 : Nat).testBit i = (decide (i < 2 * 32) && decide (i % 2 < 1)) := by
  by_cases h : i < 64
  · have : ∀ i : Fin 64, (6148914691236517205 : Nat).testBit i.val = (decide (i.val < 2 * 32) && decide (i.val % 2 < 1)) := by decide +kernel
    exact this ⟨i, h⟩
  · rw [high_bit (by decide) h]; simp [h]
theorem mask3 (i : Nat) : (3689348814741910323 : Nat).testBit i = (decide (i < 4 * 16) && decide (i % 4 < 2)) := by
  by_cases h : i < 64
  · have : ∀ i : Fin 64, (3689348814741910323 : Nat).testBit i.val = (decide (i.val < 4 * 16) && decide (i.val % 4 < 2)) := by decide +kernel
    exact this ⟨i, h⟩
  · rw [high_bit (by decide) h]; simp [h]
theorem maskF (i : Nat) : (1085102592571150095 : Nat).testBit i = (decide (i < 8 * 8) && decide (i % 8 < 4)) := by
  by_cases h : i < 64
  · have : ∀ i : Fin 64, (1085102592571150095 : Nat).testBit i.val = (decide (i.val < 8 * 8) && decide (i.val % 8 < 4)) := by decide +kernel
    exact this ⟨i, h⟩
  · rw [high_bit (by decide) h]; simp [h]
def onesN1 (n : Nat) : Nat := (n / 2 &&& 6148914691236517205) + (n &&& 6148914691236517205)
def onesN2 (n : Nat) : Nat := (n / 4 &&& 3689348814741910323) + (n &&& 3689348814741910323)
def onesN3 (n : Nat) : Nat := (n / 16 + n) &&& 1085102592571150095
def onesN4 (n : Nat) : Nat := n + n / 256
def onesN5 (n : Nat) : Nat := n + n / 65536
def onesN6 (n : Nat) : Nat := n + n / 4294967296
def onesN (n : Nat) : Nat := onesN6 (onesN5 (onesN4 (onesN3 (onesN2 (onesN1 n))))) % 128
def bitN (n i : Nat) : Nat := n / 2 ^ i % 2
theorem bitN_le (n i : Nat) : bitN n i ≤ 1 := by unfold bitN; omega
def d1 (n j : Nat) : Nat := bitN n (2 * j + 1) + bitN n (2 * j)
def d2 (n j : Nat) : Nat := d1 n (2 * j + 1) + d1 n (2 * j)
def d3 (n j : Nat) : Nat := d2 n (2 * j + 1) + d2 n (2 * j)
theorem d1_le (n j : Nat) : d1 n j ≤ 2 := by have := bitN_le n (2 * j + 1); have := bitN_le n (2 * j); unfold d1; omega
theorem d2_le (n j : Nat) : d2 n j ≤ 4 := by have := d1_le n (2 * j + 1); have := d1_le n (2 * j); unfold d2; omega
theorem d3_le (n j : Nat) : d3 n j ≤ 8 := by have := d2_le n (2 * j + 1); have := d2_le n (2 * j); unfold d3; omega
theorem onesN1_is (n : Nat) : onesN1 n = sumN 2 (d1 n) 32 := by
  have h1 := mask_sum (w := 2) (v := 1) (m := 32) (by omega) (by omega) mask5 n 1
  have h0 := mask_sum (w := 2) (v := 1) (m := 32) (by omega) (by omega) mask5 n 0
  rw [Nat.pow_zero, Nat.div_one] at h0
  rw [show (2 : Nat) ^ 1 = 2 from rfl] at h1
  unfold onesN1
  rw [h1, h0, sumN_add]
  refine sumN_congr fun i _ => ?_
  unfold d1 bitN
  rw [show 1 + 2 * i = 2 * i + 1 by omega, show 0 + 2 * i = 2 * i by omega]
theorem onesN2_is (n : Nat) : onesN2 (sumN 2 (d1 n) 32) = sumN 4 (d2 n) 16 := by
  have hd : ∀ j, d1 n j < 2 ^ 2 := fun j => by have := d1_le n j; omega
  generalize hx : sumN 2 (d1 n) 32 = x
  have h1 := mask_sum (w := 4) (v := 2) (m := 16) (by omega) (by omega) mask3 x 2
  have h0 := mask_sum (w := 4) (v := 2) (m := 16) (by omega) (by omega) mask3 x 0
  rw [Nat.pow_zero, Nat.div_one] at h0
  rw [show (2 : Nat) ^ 2 = 4 from rfl] at h1
  unfold onesN2
  rw [h1, h0, sumN_add]
  refine sumN_congr fun i hi => ?_
  have a := sumN_digit (w := 2) (m := 32) (by omega) hd (j := 2 * i + 1) (by omega)
  have b := sumN_digit (w := 2) (m := 32) (by omega) hd (j := 2 * i) (by omega)
  rw [hx] at a b
  unfold d2
  rw [← a, ← b, show 2 * (2 * i + 1) = 2 + 4 * i by omega, show 2 * (2 * i) = 0 + 4 * i by omega]
theorem sumN_succ (w : Nat) (g : Nat → Nat) : ∀ m, sumN w g (m + 1) = g 0 + 2 ^ w * sumN w (fun j => g (j + 1)) m
  | 0 => by simp [sumN]
  | m + 1 => by
    show sumN w g (m + 1) + g (m + 1) * 2 ^ (w * (m + 1)) = g 0 + 2 ^ w * (sumN w (fun j => g (j + 1)) m + g (m + 1) * 2 ^ (w * m))
    have e : g (m + 1) * 2 ^ (w * (m + 1)) = 2 ^ w * (g (m + 1) * 2 ^ (w * m)) := by
      rw [show w * (m + 1) = w + w * m by rw [Nat.mul_add]; omega, Nat.pow_add, Nat.mul_left_comm]
    rw [sumN_succ w g m, e, Nat.mul_add]; omega
theorem onesN3_mid (n : Nat) : sumN 4 (d2 n) 16 / 16 + sumN 4 (d2 n) 16 = sumN 4 (fun j => (if j < 15 then d2 n (j + 1) else 0) + d2 n j) 16 := by
  refine Eq.trans ?_ (sumN_add 4 _ _ 16)
  refine congrArg (· + sumN 4 (d2 n) 16) ?_
  rw [sumN_succ 4 _ 15, show (2 : Nat) ^ 4 = 16 from rfl, Nat.add_mul_div_left _ _ (by omega), Nat.div_eq_of_lt (by have := d2_le n 0; omega), Nat.zero_add]
  show _ = sumN 4 (fun j => if j < 15 then d2 n (j + 1) else 0) 15 + (if 15 < 15 then d2 n (15 + 1) else 0) * 2 ^ (4 * 15)
  rw [if_neg (by omega), Nat.zero_mul, Nat.add_zero]
  exact sumN_congr fun i hi => by rw [if_pos hi]
theorem onesN3_is (n : Nat) : onesN3 (sumN 4 (d2 n) 16) = sumN 8 (d3 n) 8 := by
  have hd : ∀ j, (if j < 15 then d2 n (j + 1) else 0) + d2 n j < 2 ^ 4 := fun j => by have := d2_le n j; have := d2_le n (j + 1); split <;> omega
  unfold onesN3
  rw [onesN3_mid]
  generalize hx : sumN 4 (fun j => (if j < 15 then d2 n (j + 1) else 0) + d2 n j) 16 = x
  have h0 := mask_sum (w := 8) (v := 4) (m := 8) (by omega) (by omega) maskF x 0
  rw [Nat.pow_zero, Nat.div_one] at h0
  rw [h0]
  refine sumN_congr fun i hi => ?_
  have b := sumN_digit (w := 4) (m := 16) (by omega) hd (j := 2 * i) (by omega)
  rw [hx] at b
  unfold d3
  rw [show 0 + 8 * i = 4 * (2 * i) by omega, b, if_pos (by omega)]
theorem sumN_shift {w : Nat} {g : Nat → Nat} {m : Nat} (h : ∀ j, g j < 2 ^ w) (h0 : ∀ j, m ≤ j → g j = 0) : ∀ k, sumN w g m / 2 ^ (w * k) = sumN w (fun j => g (j + k)) m
  | 0 => by simp
  | k + 1 => by
    rw [Nat.mul_add, Nat.mul_one, Nat.pow_add, ← Nat.div_div_eq_div_mul, sumN_shift h h0 k]
    have e : sumN w (fun j => g (j + k)) m = sumN w (fun j => g (j + k)) (m + 1) := by
      show _ = sumN w (fun j => g (j + k)) m + g (m + k) * _
      rw [h0 (m + k) (by omega), Nat.zero_mul, Nat.add_zero]
    rw [e, sumN_succ, Nat.add_mul_div_left _ _ (Nat.pow_pos (by omega)), Nat.div_eq_of_lt (h _), Nat.zero_add]
    exact sumN_congr fun i _ => by rw [show i + 1 + k = i + (k + 1) by omega]
theorem ones_last (e : Nat → Nat) (h : ∀ j, e j ≤ 8) : onesN6 (onesN5 (onesN4 (sumN 8 e 8))) % 128 = sm e 8 := by
  let g : Nat → Nat := fun j => if j < 8 then e j else 0
  have g8 : ∀ j, g j ≤ 8 := fun j => by show (if j < 8 then e j else 0) ≤ 8; have := h j; split <;> omega
  have g0 : ∀ j, 8 ≤ j → g j = 0 := fun j hj => if_neg (by omega)
  have e0 : sumN 8 e 8 = sumN 8 g 8 := sumN_congr fun i hi => (if_pos hi).symm
  have e4 : onesN4 (sumN 8 g 8) = sumN 8 (fun j => g j + g (j + 1)) 8 := by
    have q := sumN_shift (w := 8) (m := 8) (fun j => by have := g8 j; omega) g0 1
    unfold onesN4
    rw [show (256 : Nat) = 2 ^ (8 * 1) from rfl, q, sumN_add]
  have e5 : onesN5 (sumN 8 (fun j => g j + g (j + 1)) 8) = sumN 8 (fun j => (g j + g (j + 1)) + (g (j + 2) + g (j + 2 + 1))) 8 := by
    have q := sumN_shift (w := 8) (m := 8) (g := fun j => g j + g (j + 1)) (fun j => by have := g8 j; have := g8 (j + 1); show g j + g (j + 1) < _; omega) (fun j hj => by show g j + g (j + 1) = 0; rw [g0 j hj, g0 (j + 1) (by omega)]) 2
    unfold onesN5
    rw [show (65536 : Nat) = 2 ^ (8 * 2) from rfl, q, sumN_add]
  have e6 : onesN6 (sumN 8 (fun j => (g j + g (j + 1)) + (g (j + 2) + g (j + 2 + 1))) 8) = sumN 8 (fun j => ((g j + g (j + 1)) + (g (j + 2) + g (j + 2 + 1))) + ((g (j + 4) + g (j + 4 + 1)) + (g (j + 4 + 2) + g (j + 4 + 2 + 1)))) 8 := by
    have q := sumN_shift (w := 8) (m := 8) (g := fun j => (g j + g (j + 1)) + (g (j + 2) + g (j + 2 + 1))) (fun j => by have := g8 j; have := g8 (j + 1); have := g8 (j + 2); have := g8 (j + 2 + 1); show (g j + g (j + 1)) + (g (j + 2) + g (j + 2 + 1)) < _; omega) (fun j hj => by show (g j + g (j + 1)) + (g (j + 2) + g (j + 2 + 1)) = 0; rw [g0 j hj, g0 (j + 1) (by omega), g0 (j + 2) (by omega), g0 (j + 2 + 1) (by omega)]) 4
    unfold onesN6
    rw [show (4294967296 : Nat) = 2 ^ (8 * 4) from rfl, q, sumN_add]
  rw [e0, e4, e5, e6]
  have q := sumN_digit (w := 8) (m := 8) (j := 0) (g := fun j => ((g j + g (j + 1)) + (g (j + 2) + g (j + 2 + 1))) + ((g (j + 4) + g (j + 4 + 1)) + (g (j + 4 + 2) + g (j + 4 + 2 + 1)))) (by omega) (fun j => by
    have := g8 j; have := g8 (j + 1); have := g8 (j + 2); have := g8 (j + 2 + 1); have := g8 (j + 4); have := g8 (j + 4 + 1); have := g8 (j + 4 + 2); have := g8 (j + 4 + 2 + 1)
    show ((g j + g (j + 1)) + (g (j + 2) + g (j + 2 + 1))) + ((g (j + 4) + g (j + 4 + 1)) + (g (j + 4 + 2) + g (j + 4 + 2 + 1))) < _
    omega) (by omega)
  generalize sumN 8 (fun j => ((g j + g (j + 1)) + (g (j + 2) + g (j + 2 + 1))) + ((g (j + 4) + g (j + 4 + 1)) + (g (j + 4 + 2) + g (j + 4 + 2 + 1)))) 8 = x at *
  have q2 : x % 256 = ((e 0 + e 1) + (e 2 + e 3)) + ((e 4 + e 5) + (e 6 + e 7)) := by
    rw [show 8 * 0 = 0 from rfl, Nat.pow_zero, Nat.div_one] at q
    exact q
  have := h 0; have := h 1; have := h 2; have := h 3; have := h 4; have := h 5; have := h 6; have := h 7
  show x % 128 = 0 + e 0 + e 1 + e 2 + e 3 + e 4 + e 5 + e 6 + e 7
  omega
theorem onesN_is (n : Nat) : onesN n = sm (bitN n) 64 := by
  unfold onesN
  rw [onesN1_is, onesN2_is, onesN3_is, ones_last _ (d3_le n)]
  have e3 : sm (d3 n) 8 = sm (d2 n) 16 := sm_pairs (d2 n) 8
  have e2 : sm (d2 n) 16 = sm (d1 n) 32 := sm_pairs (d1 n) 16
  have e1 : sm (d1 n) 32 = sm (bitN n) 64 := sm_pairs (bitN n) 32
  rw [e3, e2, e1]
/-- How many bits are set. -/
def cntB (f : Nat → Bool) (m : Nat) : Nat := sm (fun i => (f i).toNat) m
theorem onesN_pack (f : Nat → Bool) (k : Nat) : onesN (pack f k) = sm (fun i => (f (64 * k + i)).toNat) 64 := by
  rw [onesN_is]
  refine sm_congr fun i hi => ?_
  unfold bitN
  rw [← Nat.toNat_testBit, pack_testBit]; simp [hi]
theorem cntB_word (f : Nat → Bool) (k : Nat) : cntB f (64 * (k + 1)) = cntB f (64 * k) + onesN (pack f k) := by
  rw [onesN_pack, show 64 * (k + 1) = 64 * k + 64 by omega]
  exact sm_add _ _ _
theorem sm_le {f : Nat → Nat} (h : ∀ i, f i ≤ 1) : ∀ m, sm f m ≤ m
  | 0 => Nat.le_refl _
  | m + 1 => by have := sm_le h m; have := h m; show sm f m + f m ≤ m + 1; omega
theorem cntB_le (f : Nat → Bool) (m : Nat) : cntB f m ≤ m := sm_le (fun i => toNat_le _) m
theorem onesN_le (n : Nat) : onesN n ≤ 64 := by rw [onesN_is]; exact sm_le (bitN_le n) 64
/-- A word with one bit is a power of two. -/
theorem bits_zero (n : Nat) : ∀ m, sm (bitN n) m = 0 → n % 2 ^ m = 0
  | 0, _ => Nat.mod_one n
  | m + 1, h => by
    have h' : sm (bitN n) m + bitN n m = 0 := h
    have ih := bits_zero n m (by omega)
    have hb : n / 2 ^ m % 2 = 0 := by have : bitN n m = 0 := by omega
                                      exact this
    rw [Nat.mod_pow_succ, ih, hb]; omega
theorem bits_one (n : Nat) : ∀ m, sm (bitN n) m = 1 → ∃ k, k < m ∧ n % 2 ^ m = 2 ^ k
  | 0, h => by simp [sm] at h
  | m + 1, h => by
    have h' : sm (bitN n) m + bitN n m = 1 := h
    have hb := bitN_le n m
    rcases Nat.eq_zero_or_pos (bitN n m) with q | q
    · obtain ⟨k, hk, e⟩ := bits_one n m (by omega)
      have hb : n / 2 ^ m % 2 = 0 := q
      exact ⟨k, by omega, by rw [Nat.mod_pow_succ, e, hb]; omega⟩
    · have e := bits_zero n m (by omega)
      have hb : n / 2 ^ m % 2 = 1 := by have : bitN n m = 1 := by omega
                                        exact this
      exact ⟨m, by omega, by rw [Nat.mod_pow_succ, e, hb]; omega⟩
theorem sm_one (k : Nat) : ∀ m, sm (fun i => if i = k then 1 else 0) m = if k < m then 1 else 0
  | 0 => by simp [sm]
  | m + 1 => by
    show sm (fun i => if i = k then 1 else 0) m + (if m = k then 1 else 0) = _
    rw [sm_one k m]
    by_cases h : k < m
    · rw [if_pos h, if_neg (by omega), if_pos (by omega)]
    · by_cases e : m = k
      · rw [if_neg h, if_pos e, if_pos (by omega)]
      · rw [if_neg h, if_neg e, if_neg (by omega)]
theorem onesN_pow {k : Nat} (h : k < 64) : onesN (2 ^ k) = 1 := by
  rw [onesN_is, sm_congr (g := fun i => if i = k then 1 else 0) (fun i _ => by
    unfold bitN
    rw [← Nat.toNat_testBit, Nat.testBit_two_pow]
    by_cases e : k = i
    · subst e; simp
    · simp [e, show ¬ i = k from fun q => e q.symm]), sm_one, if_pos h]
theorem onesN_one {n : Nat} (hn : n < 18446744073709551616) : onesN n = 1 ↔ ∃ k, k < 64 ∧ n = 2 ^ k := by
  constructor
  · intro h
    rw [onesN_is] at h
    obtain ⟨k, hk, e⟩ := bits_one n 64 h
    exact ⟨k, hk, by rw [← e]; exact (Nat.mod_eq_of_lt hn).symm⟩
  · rintro ⟨k, hk, rfl⟩
    exact onesN_pow hk
end Go.Proofs.Ytihgidkkdjmlkaa
