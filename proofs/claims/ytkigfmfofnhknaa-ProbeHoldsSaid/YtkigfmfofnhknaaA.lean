/-
  Contracts of the plain functions of packages probe and cubbyholeref06: which numbers of groups are allowed, and the elements of a probe sequence.
-/
import Derived.Test.YtkigfmfofnhknaaRows
import Derived.WalkKit
import Derived.ProofKit
import Derived.OpenShut
import Derived.ShutString
import Derived.Outline
import Derived.WalkLawsBesides
import Derived.BigQuiet
import Derived.Deep.QuietTactic
import Derived.Lib.Hide
import Derived.Laws.Bits64
import Derived.Laws.BitsAllLaws
namespace Go.Proofs.Ytkigfmfofnhknaa
open Go.ChangeShapes Go.WideShapes Go.ChangeAt Go.RowKit
set_option linter.unusedVariables false

theorem ret_i64 {a b : Int} (h : a = b) : Ending.returned (.int .i64 a) = .returned (.int .i64 b) := by rw [h]
theorem ret_bool {a b : Bool} (h : a = b) : Ending.returned (.bool a) = .returned (.bool b) := by rw [h]
theorem below_drewN {B : Nat} {a w : World} (h : Below B a w) (n : Nat) : Below B a (w.drewN n) := ⟨h.os, h.tape, h.output, h.size, h.block⟩

/-- Which numbers of groups are allowed. -/
def validB (g : Int) : Bool := decide (∃ k : Fin 21, g = ((2 ^ k.val : Nat) : Int))
theorem validB_iff (g : Int) : validB g = true ↔ ∃ k : Nat, k ≤ 20 ∧ g = ((2 ^ k : Nat) : Int) := by
  unfold validB
  rw [decide_eq_true_iff]
  constructor
  · rintro ⟨k, h⟩; exact ⟨k.val, by omega, h⟩
  · rintro ⟨k, hk, h⟩; exact ⟨⟨k, by omega⟩, h⟩

theorem pow_le20 {k : Nat} (hk : k ≤ 20) : 2 ^ k ≤ 1048576 := Nat.pow_le_pow_right (n := 2) (by omega) hk
theorem pow_lt_of {k : Nat} (h : 2 ^ k ≤ 1048576) : k ≤ 20 := by
  rcases Nat.lt_or_ge 20 k with h' | h'
  · have : 2 ^ 21 ≤ 2 ^ k := Nat.pow_le_pow_right (n := 2) (by omega) h'
    omega
  · exact h'

theorem valid_bounds {g : Int} (h : validB g = true) : 1 ≤ g ∧ g ≤ 1048576 := by
  obtain ⟨k, hk, rfl⟩ := (validB_iff g).1 h
  have := pow_le20 hk
  have := Nat.two_pow_pos k
  omega

theorem and_pred (n : Nat) (h0 : 0 < n) : n &&& (n - 1) = 0 ↔ ∃ k, n = 2 ^ k := by
  constructor
  · intro h
    have h1 : 2 ^ n.log2 ≤ n := Nat.log2_self_le (by omega)
    have h2 : n < 2 ^ (n.log2 + 1) := Nat.lt_log2_self
    rcases Nat.lt_or_ge (2 ^ n.log2) n with h3 | h3
    · exfalso
      have e1 : n.testBit n.log2 = true := by
        rw [Nat.testBit_eq_decide_div_mod_eq]
        have : n / 2 ^ n.log2 = 1 := Nat.div_eq_of_lt_le (by omega) (by rw [Nat.pow_succ] at h2; omega)
        rw [this]; rfl
      have e2 : (n - 1).testBit n.log2 = true := by
        rw [Nat.testBit_eq_decide_div_mod_eq]
        have : (n - 1) / 2 ^ n.log2 = 1 := Nat.div_eq_of_lt_le (by omega) (by rw [Nat.pow_succ] at h2; omega)
        rw [this]; rfl
      have e3 : (n &&& (n - 1)).testBit n.log2 = true := by rw [Nat.testBit_and, e1, e2]; rfl
      rw [h] at e3
      simp at e3
    · exact ⟨n.log2, by omega⟩
  · rintro ⟨k, rfl⟩
    rw [Nat.and_two_pow_sub_one_eq_mod]
    simp

theorem ofInt_i64 (a : Nat) (ha : a < 9223372036854775808) : (BitVec.ofInt 64 (a : Int)).toNat = a := by
  rw [BitVec.ofInt_natCast, BitVec.toNat_ofNat]; exact Nat.mod_eq_of_lt (by omega)
theorem and_i64 (a b : Nat) (ha : a < 9223372036854775808) (hb : b < 9223372036854775808) : bits .and .i64 (a : Int) (b : Int) = ((a &&& b : Nat) : Int) := by
  have hx : a &&& b ≤ a := Nat.and_le_left
  show IntKind.i64.wrap ((BitVec.ofInt 64 (a : Int) &&& BitVec.ofInt 64 (b : Int)).toNat : Int) = _
  rw [BitVec.toNat_and, ofInt_i64 a ha, ofInt_i64 b hb, IntKind.wrap_i64]
  omega

theorem valid_bits (g : Int) (h0 : 0 < g) (h1 : g ≤ 1048576) : (bits .and .i64 g (g - 1) == 0) = validB g := by
  obtain ⟨n, rfl⟩ := Int.eq_ofNat_of_zero_le (show 0 ≤ g by omega)
  have e : ((n : Int) - 1) = ((n - 1 : Nat) : Int) := by omega
  rw [e, and_i64 n (n - 1) (by omega) (by omega), Bool.eq_iff_iff, validB_iff, beq_iff_eq]
  have := and_pred n (by omega)
  constructor
  · intro h
    obtain ⟨k, hk⟩ := this.1 (by exact_mod_cast h)
    exact ⟨k, pow_lt_of (by omega), by rw [hk]⟩
  · rintro ⟨k, hk, h⟩
    have : n &&& (n - 1) = 0 := this.2 ⟨k, by exact_mod_cast h⟩
    rw [this]; rfl

/-- An element of a probe sequence over a number of groups. -/
def pat (p g i : Int) : Int := (p + i * (i + 1) / 2) % g

theorem emod_wrap (x : Int) (k : Nat) (hk : k ≤ 20) : (x % 18446744073709551616) % ((2 ^ k : Nat) : Int) = x % ((2 ^ k : Nat) : Int) := by
  apply Int.emod_emod_of_dvd
  have : (2 ^ k : Nat) ∣ 2 ^ 64 := Nat.pow_dvd_pow 2 (by omega)
  exact Int.natCast_dvd_natCast.2 this

theorem and_mask (x : Int) (k : Nat) (hk : k ≤ 20) (h0 : 0 ≤ x) (h1 : x < 18446744073709551616) : bits .and .u64 x (((2 ^ k : Nat) : Int) - 1) = x % ((2 ^ k : Nat) : Int) := by
  have hp := pow_le20 hk
  have hp0 := Nat.two_pow_pos k
  obtain ⟨n, rfl⟩ := Int.eq_ofNat_of_zero_le h0
  have e : (((2 ^ k : Nat) : Int) - 1) = ((2 ^ k - 1 : Nat) : Int) := by omega
  rw [e, u64_and_nat n (2 ^ k - 1) (by omega) (by omega), Nat.and_two_pow_sub_one_eq_mod]
  rfl

theorem pat_range (p : Int) {g : Int} (hg : 0 < g) (i : Int) : 0 ≤ pat p g i ∧ pat p g i < g := by
  unfold pat
  exact ⟨Int.emod_nonneg _ (by omega), Int.emod_lt_of_pos _ hg⟩

theorem at_value (p : Int) (k : Nat) (hk : k ≤ 20) (i : Nat) :
    wrap64 (bits .and .u64 (IntKind.u64.wrap (p + (i : Int) * ((i : Int) + 1) / 2)) (((2 ^ k : Nat) : Int) - 1)) = pat p ((2 ^ k : Nat) : Int) i := by
  have hp := pow_le20 hk
  have hp0 := Nat.two_pow_pos k
  have hr := pat_range p (g := ((2 ^ k : Nat) : Int)) (by omega) i
  rw [and_mask _ k hk (by rw [IntKind.wrap_u64]; omega) (by rw [IntKind.wrap_u64]; omega), IntKind.wrap_u64, emod_wrap _ k hk]
  show wrap64 (pat p ((2 ^ k : Nat) : Int) i) = _
  exact IntWalk.wrap64_in _ (by omega)

theorem tri_bounds (i n : Nat) (hi : i < n) (hn : n ≤ 1048576) : 0 ≤ (i : Int) * ((i : Int) + 1) ∧ (i : Int) * ((i : Int) + 1) ≤ 1099512676352 := by
  have h1 : i * (i + 1) ≤ 1048576 * 1048577 := Nat.mul_le_mul (by omega) (by omega)
  have e : (i : Int) * ((i : Int) + 1) = ((i * (i + 1) : Nat) : Int) := by rw [Int.natCast_mul]; rfl
  rw [e]
  generalize i * (i + 1) = m at *
  omega

theorem at_any (p : Int) (p0 : 0 ≤ p) (p1 : p < 18446744073709551616) (k : Nat) (hk : k ≤ 20) (g : Int) (hg : g = ((2 ^ k : Nat) : Int)) (i : Nat) (hi : (i : Int) < g) (w : World) :
    Calls Try.prog 23 #[.int .u64 p, .int .i64 g, .int .i64 i] w fun e w' => e = .returned (.int .i64 (pat p g i)) ∧ w = w' := by
  have hg1 : g ≤ 1048576 := by have := pow_le20 hk; omega
  have hg0 : 0 < g := by have := Nat.two_pow_pos k; omega
  obtain ⟨hm0, hm⟩ := tri_bounds i g.toNat (by omega) (by omega)
  have HV := Lib.hid (at_value p k hk i)
  rw [← hg] at HV
  clear hg
  go_enter Try.func23, Try.ntmps23
  go_wp2
  go_ret
  exact ⟨ret_i64 HV.out, rfl⟩

theorem valid_any (g : Int) (b0 : -9223372036854775808 ≤ g) (b1 : g ≤ 9223372036854775807) (w : World) :
    Calls Try.prog 9 #[.int .i64 g] w fun e w' => e = .returned (.bool (validB g)) ∧ w = w' := by
  by_cases h0 : 0 < g
  · by_cases h1 : g ≤ 1048576
    · go_enter Try.func9, Try.ntmps9
      go_wp2
      go_ret
      exact ⟨ret_bool (valid_bits g h0 h1), rfl⟩
    · have HF := Lib.hid (show validB g = false from by
        rw [← Bool.not_eq_true]; intro h; have := valid_bounds h; omega)
      go_enter Try.func9, Try.ntmps9
      go_wp2
      go_ret
      exact ⟨ret_bool HF.out.symm, rfl⟩
  · have HF := Lib.hid (show validB g = false from by
      rw [← Bool.not_eq_true]; intro h; have := valid_bounds h; omega)
    go_enter Try.func9, Try.ntmps9
    go_wp2
    go_ret
    exact ⟨ret_bool HF.out.symm, rfl⟩

/-- The error of a number of groups, and of a number that must be below it. -/
def errOf (g n : Int) : Int := if validB g then (if n < 0 ∨ g ≤ n then 3 else 0) else 2

theorem check_any (g n : Int) (b0 : -9223372036854775808 ≤ g) (b1 : g ≤ 9223372036854775807) (w : World) :
    Calls Try.prog 21 #[.int .i64 g, .int .i64 n] w fun e w' => e = .returned (.int .i64 (errOf g n)) ∧ w = w' := by
  by_cases hv : validB g = true
  · by_cases h0 : n < 0
    · have HF := Lib.hid (show errOf g n = 3 from by unfold errOf; rw [if_pos hv, if_pos (by omega)])
      go_enter Try.func21, Try.ntmps21
      go_wp2_with (go_at_call 9; refine (valid_any g b0 b1 _).mono ?_; rintro e w' ⟨rfl, rfl⟩)
      go_ret
      exact ⟨ret_i64 HF.out.symm, rfl⟩
    · by_cases h1 : g ≤ n
      · have HF := Lib.hid (show errOf g n = 3 from by unfold errOf; rw [if_pos hv, if_pos (by omega)])
        go_enter Try.func21, Try.ntmps21
        go_wp2_with (go_at_call 9; refine (valid_any g b0 b1 _).mono ?_; rintro e w' ⟨rfl, rfl⟩)
        go_ret
        exact ⟨ret_i64 HF.out.symm, rfl⟩
      · have HF := Lib.hid (show errOf g n = 0 from by unfold errOf; rw [if_pos hv, if_neg (by omega)])
        go_enter Try.func21, Try.ntmps21
        go_wp2_with (go_at_call 9; refine (valid_any g b0 b1 _).mono ?_; rintro e w' ⟨rfl, rfl⟩)
        go_ret
        exact ⟨ret_i64 HF.out.symm, rfl⟩
  · have hv' : validB g = false := by simpa using hv
    have HF := Lib.hid (show errOf g n = 2 from by unfold errOf; rw [if_neg hv])
    clear hv
    go_enter Try.func21, Try.ntmps21
    go_wp2_with (go_at_call 9; refine (valid_any g b0 b1 _).mono ?_; rintro e w' ⟨rfl, rfl⟩)
    go_ret
    exact ⟨ret_i64 HF.out.symm, rfl⟩

/-- At's first result. -/
def atOf (p g i : Int) : Int := if errOf g i = 0 then pat p g i else 0

theorem errOf_zero {g n : Int} (h : errOf g n = 0) : validB g = true ∧ 0 ≤ n ∧ n < g := by
  unfold errOf at h
  by_cases hv : validB g = true
  · rw [if_pos hv] at h
    by_cases h1 : n < 0 ∨ g ≤ n
    · rw [if_pos h1] at h; omega
    · exact ⟨hv, by omega, by omega⟩
  · rw [if_neg hv] at h; omega

theorem ret_two {a b c d : Int} (h : a = c) (k : b = d) : Ending.returned (.tuple #[.int .i64 a, .int .i64 b]) = .returned (.tuple #[.int .i64 c, .int .i64 d]) := by rw [h, k]

theorem At_any (p g i : Int) (p0 : 0 ≤ p) (p1 : p < 18446744073709551616) (b0 : -9223372036854775808 ≤ g) (b1 : g ≤ 9223372036854775807) (w : World) :
    Calls Try.prog 18 #[.int .u64 p, .int .i64 g, .int .i64 i] w fun e w' => e = .returned (.tuple #[.int .i64 (atOf p g i), .int .i64 (errOf g i)]) ∧ w = w' := by
  by_cases h0 : errOf g i = 0
  · obtain ⟨hv, hi0, hi1⟩ := errOf_zero h0
    obtain ⟨k, hk, hg⟩ := (validB_iff g).1 hv
    obtain ⟨n, rfl⟩ := Int.eq_ofNat_of_zero_le hi0
    have HF := Lib.hid (show atOf p g n = pat p g n from by unfold atOf; rw [if_pos h0])
    have HE := Lib.hid h0
    have hne : (errOf g (n : Int) != 0) = false := by rw [h0]; rfl
    have HG := Lib.hid hg
    clear h0 hg hv
    go_enter Try.func18, Try.ntmps18
    go_wp2_with (first | (go_at_call 21; refine (check_any g _ b0 b1 _).mono ?_; rintro e w' ⟨rfl, rfl⟩) | (go_at_call 23; refine (at_any p p0 p1 k hk g HG.out n hi1 _).mono ?_; rintro e w' ⟨rfl, rfl⟩))
    go_ret2
    exact ⟨ret_two HF.out.symm HE.out.symm, rfl⟩
  · have HF := Lib.hid (show atOf p g i = 0 from by unfold atOf; rw [if_neg h0])
    have hne : (errOf g i != 0) = true := by rw [bne_iff_ne]; exact h0
    clear h0
    go_enter Try.func18, Try.ntmps18
    go_wp2_with (first | (go_at_call 21; refine (check_any g _ b0 b1 _).mono ?_; rintro e w' ⟨rfl, rfl⟩))
    go_ret2
    exact ⟨ret_two HF.out.symm rfl, rfl⟩

theorem lawAt_any (p g i x no : Int) (p0 : 0 ≤ p) (p1 : p < 18446744073709551616) (b0 : -9223372036854775808 ≤ g) (b1 : g ≤ 9223372036854775807) (w : World) :
    Calls Try.prog 11 #[.int .u64 p, .int .i64 g, .int .i64 i, .int .i64 x, .int .i64 no] w fun e w' => e = .returned (.bool (decide (atOf p g i = x ∧ errOf g i = no))) ∧ w = w' := by
  by_cases h1 : atOf p g i = x
  · have e1 : (atOf p g i == x) = true := by rw [beq_iff_eq]; exact h1
    have HF := Lib.hid (show (errOf g i == no) = decide (atOf p g i = x ∧ errOf g i = no) from by
      rw [Bool.eq_iff_iff]; simp [h1])
    clear h1
    go_enter Try.func11, Try.ntmps11
    go_wp2_with (first | (go_at_call 18; refine (At_any p g i p0 p1 b0 b1 _).mono ?_; rintro e w' ⟨rfl, rfl⟩))
    go_ret
    exact ⟨ret_bool HF.out, rfl⟩
  · have e1 : (atOf p g i == x) = false := by rw [beq_eq_false_iff_ne]; exact h1
    have HF := Lib.hid (show false = decide (atOf p g i = x ∧ errOf g i = no) from by simp [h1])
    clear h1
    go_enter Try.func11, Try.ntmps11
    go_wp2_with (first | (go_at_call 18; refine (At_any p g i p0 p1 b0 b1 _).mono ?_; rintro e w' ⟨rfl, rfl⟩))
    go_ret
    exact ⟨ret_bool HF.out, rfl⟩

set_option maxHeartbeats 400000 in
theorem refValid_any (g : Int) (w : World) :
    Calls Try.prog 10 #[.int .i64 g] w fun e w' => e = .returned (.bool (validB g)) ∧ w = w' := by
  go_enter Try.func10, Try.ntmps10
  go_wp2
  go_loop [3] (fun n => ∃ k : Nat, k ≤ 21 ∧ n = .int .i64 ((2 ^ k : Nat) : Int) ∧ ∀ j, j < k → g ≠ ((2 ^ j : Nat) : Int)) (fun n => (2097153 - intOf n).toNat)
  case atStart => exact ⟨0, by omega, by simp, fun j hj => absurd hj (by omega)⟩
  case round =>
    obtain ⟨k, hk, rfl, hno⟩ := hrel
    have hp0 := Nat.two_pow_pos k
    have hp1 : 2 ^ k ≤ 2097152 := Nat.pow_le_pow_right (n := 2) (by omega) hk
    have HN := Lib.hid hno
    clear hno
    by_cases h20 : k ≤ 20
    · have h1 := pow_le20 h20
      by_cases he : g = ((2 ^ k : Nat) : Int)
      · have HF := Lib.hid (show true = validB g from ((validB_iff g).2 ⟨k, h20, he⟩).symm)
        have hq : ((((2 ^ k : Nat) : Int)) == g) = true := by rw [he]; simp
        clear he
        generalize 2 ^ k = m at *
        go_wp2
        go_ret
        exact ⟨ret_bool HF.out, rfl⟩
      · have hq : ((((2 ^ k : Nat) : Int)) == g) = false := by rw [beq_eq_false_iff_ne]; exact fun h => he h.symm
        have HE := Lib.hid he
        have HS := Lib.hid (show ((2 ^ (k + 1) : Nat) : Int) = 2 * ((2 ^ k : Nat) : Int) from by rw [Nat.pow_succ]; omega)
        clear he
        generalize hm : 2 ^ k = m at *
        have HM := Lib.hid hm
        clear hm
        go_wp2
        go_round
        case rel => exact ⟨k + 1, by omega, by rw [HS.out], fun j hj => by
          rcases Nat.lt_or_ge j k with h | h
          · exact HN.out j h
          · obtain rfl : j = k := by omega
            rw [HM.out]; exact HE.out⟩
        case measure => simp [intOf]; omega
    · have h1 : 2097152 ≤ 2 ^ k := Nat.pow_le_pow_right (n := 2) (i := 21) (by omega) (by omega)
      have HF := Lib.hid (show false = validB g from by
        symm; rw [← Bool.not_eq_true, validB_iff]; rintro ⟨j, hj, h⟩; exact HN.out j (by omega) h)
      generalize 2 ^ k = m at *
      go_wp2
      go_ret
      exact ⟨ret_bool HF.out, rfl⟩
end Go.Proofs.Ytkigfmfofnhknaa
