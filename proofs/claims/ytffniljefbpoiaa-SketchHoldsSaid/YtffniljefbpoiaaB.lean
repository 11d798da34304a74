/-
  The plain law of sketches: sixteen counters of four bits in one word.
-/
import Derived.Test.YtffniljefbpoiaaA
namespace Go.Proofs.Ytffniljefbpoiaa
open Go.ChangeShapes Go.WideShapes Go.ChangeAt Go.RowKit
set_option linter.unusedVariables false

theorem p16 (x : Nat) : 2 ^ (x * 4) = 16 ^ x := by rw [Nat.mul_comm, Nat.pow_mul]
theorem p16' (x : Nat) : 16 ^ x = 2 ^ (4 * x) := by rw [Nat.pow_mul]
/-- Sixteen counters in a word. -/
def packN (f : Nat → Nat) (k : Nat) : Nat → Nat
  | 0 => 0
  | j + 1 => packN f k j + f (16 * k + j) * 16 ^ j
def pack (f : Nat → Nat) (k : Nat) : Nat := packN f k 16
def Small (f : Nat → Nat) : Prop := ∀ i, f i ≤ 15
theorem packN_lt {f : Nat → Nat} (h : Small f) (k : Nat) : ∀ m, packN f k m < 16 ^ m
  | 0 => by simp [packN]
  | m + 1 => by
    have ih := packN_lt h k m
    have := h (16 * k + m)
    show packN f k m + f (16 * k + m) * 16 ^ m < _
    have : f (16 * k + m) * 16 ^ m ≤ 15 * 16 ^ m := Nat.mul_le_mul_right _ this
    rw [Nat.pow_succ]; omega
theorem packN_digit {f : Nat → Nat} (h : Small f) (k : Nat) : ∀ m j, j < m → packN f k m / 16 ^ j % 16 = f (16 * k + j)
  | 0, j, hj => by omega
  | m + 1, j, hj => by
    show (packN f k m + f (16 * k + m) * 16 ^ m) / 16 ^ j % 16 = _
    by_cases e : j = m
    · subst e
      rw [Nat.add_mul_div_right _ _ (Nat.pow_pos (by omega)), Nat.div_eq_of_lt (packN_lt h k j), Nat.zero_add]
      exact Nat.mod_eq_of_lt (by have := h (16 * k + j); omega)
    · have hj2 : j < m := by omega
      have e1 : f (16 * k + m) * 16 ^ m = (f (16 * k + m) * 16 ^ (m - j - 1)) * 16 * 16 ^ j := by
        rw [Nat.mul_assoc, Nat.mul_assoc, ← Nat.pow_succ', ← Nat.pow_add]; congr 2; omega
      rw [e1, Nat.add_mul_div_right _ _ (Nat.pow_pos (by omega)), Nat.add_mul_mod_self_right]
      exact packN_digit h k m j hj2
theorem pack_lt {f : Nat → Nat} (h : Small f) (k : Nat) : pack f k < 18446744073709551616 := packN_lt h k 16
theorem pack_digit {f : Nat → Nat} (h : Small f) (i : Nat) : pack f (i / 16) / 2 ^ (i % 16 * 4) % 16 = f i := by
  have := packN_digit h (i / 16) 16 (i % 16) (by omega)
  rw [show 16 * (i / 16) + i % 16 = i by omega] at this
  rw [← this, p16]; rfl
def upd (f : Nat → Nat) (p v : Nat) : Nat → Nat := fun i => if i = p then v else f i
theorem packN_upd (f : Nat → Nat) (p k : Nat) : ∀ m, packN (upd f p (f p + 1)) k m = packN f k m + if 16 * k ≤ p ∧ p < 16 * k + m then 16 ^ (p - 16 * k) else 0
  | 0 => by rw [if_neg (by omega)]; rfl
  | m + 1 => by
    show packN (upd f p (f p + 1)) k m + upd f p (f p + 1) (16 * k + m) * 16 ^ m = (packN f k m + f (16 * k + m) * 16 ^ m) + _
    rw [packN_upd f p k m]
    unfold upd
    by_cases e : 16 * k + m = p
    · subst e
      rw [if_neg (by omega), if_pos rfl, if_pos (by omega), show 16 * k + m - 16 * k = m by omega, Nat.add_mul]; omega
    · rw [if_neg e]
      by_cases q : 16 * k ≤ p ∧ p < 16 * k + m
      · rw [if_pos q, if_pos (by omega)]; omega
      · rw [if_neg q, if_neg (by omega)]; omega
theorem pack_upd_same (f : Nat → Nat) (p : Nat) : pack (upd f p (f p + 1)) (p / 16) = pack f (p / 16) + 2 ^ (p % 16 * 4) := by
  unfold pack
  rw [packN_upd, if_pos (by omega), p16, show p - 16 * (p / 16) = p % 16 by omega]
theorem pack_upd_other (f : Nat → Nat) (p k : Nat) (h : k ≠ p / 16) : pack (upd f p (f p + 1)) k = pack f k := by
  unfold pack
  rw [packN_upd, if_neg (by omega), Nat.add_zero]
theorem packN_testBit {f : Nat → Nat} (h : Small f) (k i : Nat) : (pack f k).testBit i = (decide (i < 64) && (f (16 * k + i / 4)).testBit (i % 4)) := by
  by_cases hi : i < 64
  · have e := packN_digit h k 16 (i / 4) (by omega)
    rw [← e]
    have h16 : (16 : Nat) = 2 ^ 4 := rfl
    rw [p16']
    rw [h16, Nat.testBit_mod_two_pow, Nat.testBit_div_two_pow, show i % 4 + 4 * (i / 4) = i by omega]
    simp [hi, Nat.mod_lt, pack]
  · have : (pack f k).testBit i = false := Nat.testBit_lt_two_pow (Nat.lt_of_lt_of_le (pack_lt h k) (by
      have : (18446744073709551616 : Nat) = 2 ^ 64 := rfl
      rw [this]; exact Nat.pow_le_pow_right (by omega) (by omega)))
    rw [this]; simp [hi]
theorem low_bit : ∀ i : Fin 64, (8608480567731124087 : Nat).testBit i.val = decide (i.val % 4 ≠ 3) := by decide +kernel
theorem half3 (d : Nat) (h : d ≤ 15) : (d / 2).testBit 3 = false := Nat.testBit_lt_two_pow (by omega)
theorem pack_half {f : Nat → Nat} (h : Small f) (k : Nat) : (pack f k / 2) &&& 8608480567731124087 = pack (fun i => f i / 2) k := by
  apply Nat.eq_of_testBit_eq
  intro i
  have h2 : Small (fun i => f i / 2) := fun i => by have := h i; show f i / 2 ≤ 15; omega
  rw [Nat.testBit_and, packN_testBit h2, Nat.testBit_div_two, packN_testBit h]
  by_cases hi : i < 64
  · rw [low_bit ⟨i, hi⟩]
    show _ = (decide (i < 64) && (f (16 * k + i / 4) / 2).testBit (i % 4))
    rw [Nat.testBit_div_two]
    by_cases h3 : i % 4 = 3
    · have := half3 _ (h (16 * k + i / 4))
      rw [Nat.testBit_div_two] at this
      simp [h3, this]
    · have e1 : (i + 1) / 4 = i / 4 := by omega
      have e2 : (i + 1) % 4 = i % 4 + 1 := by omega
      have e3 : i + 1 < 64 := by omega
      simp [hi, h3, e1, e2, e3]
  · have e3 : ¬ i + 1 < 64 := by omega
    simp [hi, e3]

/-- A sketch: width, sample, additions, seed, counters by rows. -/
structure Sk where
  n : Nat
  s : Nat
  a : Nat
  seed : Int
  c : Nat → Nat → Nat
/-- The place of a key in a row. -/
def Sk.plc (K : Sk) (key : List UInt8) (r : Nat) : Nat := (sumI K.seed false key).toNat / 65536 ^ r % K.n
def Sk.up (K : Sk) (key : List UInt8) : Sk := ⟨K.n, K.s, K.a + 1, K.seed, fun r i => if i = K.plc key r then min 15 (K.c r i + 1) else K.c r i⟩
def Sk.half (K : Sk) : Sk := ⟨K.n, K.s, K.a / 2, K.seed, fun r i => K.c r i / 2⟩
def Sk.full (K : Sk) : Bool := decide (0 < K.s ∧ K.a + 1 = K.s)
def Sk.add (K : Sk) (key : List UInt8) : Sk := if K.full then (K.up key).half else K.up key
def Sk.cnt (K : Sk) (key : List UInt8) : Nat := min (min (min (min 15 (K.c 0 (K.plc key 0))) (K.c 1 (K.plc key 1))) (K.c 2 (K.plc key 2))) (K.c 3 (K.plc key 3))
def Sk.new (n : Nat) (seed : Int) (s : Nat) : Sk := ⟨n, s, 0, seed, fun _ _ => 0⟩
/-- What holds of all sketches. -/
structure Sk.Ok (K : Sk) : Prop where
  pow : ∃ e, 4 ≤ e ∧ e ≤ 16 ∧ K.n = 2 ^ e
  seed : Word K.seed
  few : K.a < 16777217
  most : K.s < 16777217
  small : ∀ r, Small (K.c r)
theorem Sk.Ok.n16 {K : Sk} (h : K.Ok) : 16 ≤ K.n ∧ K.n ≤ 65536 ∧ K.n = 16 * (K.n / 16) := by
  obtain ⟨e, h1, h2, h3⟩ := h.pow
  rw [h3]
  have a : 2 ^ 4 ≤ 2 ^ e := Nat.pow_le_pow_right (by omega) h1
  have b : 2 ^ e ≤ 2 ^ 16 := Nat.pow_le_pow_right (by omega) h2
  have c : 2 ^ e = 16 * 2 ^ (e - 4) := by rw [show (16 : Nat) = 2 ^ 4 from rfl, ← Nat.pow_add]; congr 1; omega
  refine ⟨a, b, ?_⟩
  omega
theorem Sk.plc_lt {K : Sk} (h : K.Ok) (key : List UInt8) (r : Nat) : K.plc key r < K.n := Nat.mod_lt _ (by have := h.n16; omega)
theorem Sk.Ok.half {K : Sk} (h : K.Ok) : K.half.Ok := ⟨h.pow, h.seed, by have := h.few; show K.a / 2 < _; omega, h.most, fun r i => by have := h.small r i; show K.c r i / 2 ≤ 15; omega⟩
end Go.Proofs.Ytffniljefbpoiaa
