/-
  The walk of each, for each of its three visits.
-/
import Derived.Test.YtihgidkkdjmlkaaD
namespace Go.Proofs.Ytihgidkkdjmlkaa
open Go.ChangeShapes Go.WideShapes Go.ChangeAt Go.RowKit
set_option linter.unusedVariables false

theorem sumI_word (h : Int) (l : List UInt8) : Word (sumI h false l) := mixI_word _
theorem low_law {S : Int} (h : Word S) : bits .and .u64 S 4294967295 = ((lowS S : Nat) : Int) := by
  obtain ⟨h0, h1⟩ := h
  obtain ⟨n, rfl⟩ := Int.eq_ofNat_of_zero_le h0
  have e := u64_and_nat n 4294967295 (by omega) (by omega)
  have q : n &&& 4294967295 = n % 2 ^ 32 := Nat.and_two_pow_sub_one_eq_mod n 32
  rw [show (4294967295 : Int) = ((4294967295 : Nat) : Int) from rfl, e, q]
  rfl
theorem step_law {S : Int} (h : Word S) : bits .or .u64 (S / 4294967296) 1 = ((stepS S : Nat) : Int) := by
  obtain ⟨h0, h1⟩ := h
  obtain ⟨n, rfl⟩ := Int.eq_ofNat_of_zero_le h0
  have e := u64_or_nat (n / 4294967296) 1 (by omega) (by omega)
  rw [show ((n : Int) / 4294967296) = ((n / 4294967296 : Nat) : Int) by omega, show (1 : Int) = ((1 : Nat) : Int) from rfl, e]
  rfl
theorem or_one (a : Nat) : a ||| 1 = if a % 2 = 0 then a + 1 else a := by
  apply Nat.eq_of_testBit_eq
  intro i
  rw [Nat.testBit_or]
  cases i with
  | zero =>
    split
    · simp [Nat.testBit_zero]; omega
    · simp [Nat.testBit_zero]; omega
  | succ i =>
    rw [Nat.testBit_succ, Nat.testBit_succ, Nat.testBit_succ]
    split
    · rw [show (a + 1) / 2 = a / 2 by omega]; simp
    · simp
theorem step_lt {S : Int} (h : Word S) : stepS S < 18446744073709551616 := by
  obtain ⟨h0, h1⟩ := h
  have := or_one (S.toNat / 4294967296)
  unfold stepS
  rw [this]
  split <;> omega
/-- Where a round stands. -/
def atS (S : Int) (i : Nat) : Nat := (lowS S + i * stepS S) % 18446744073709551616
theorem atS_zero (S : Int) : atS S 0 = lowS S := by
  unfold atS lowS
  rw [Nat.zero_mul, Nat.add_zero]
  exact Nat.mod_eq_of_lt (by omega)
theorem atS_succ (S : Int) (i : Nat) : IntKind.u64.wrap (((atS S i : Nat) : Int) + ((stepS S : Nat) : Int)) = ((atS S (i + 1) : Nat) : Int) := by
  unfold atS
  rw [IntKind.wrap_u64, Nat.add_mul, Nat.one_mul]
  generalize i * stepS S = m
  generalize stepS S = s
  generalize lowS S = l
  omega
theorem plc_law (K : Bl) (hK : K.Ok) (key : List UInt8) (i : Nat) : bits .and .i64 (wrap64 ((atS (K.sum key) i : Nat) : Int)) ((K.n : Int) / 64 * 64 - 1) = ((K.plc key i : Nat) : Int) := by
  obtain ⟨e, h1, h2, h3⟩ := hK.pow
  have h64 := hK.n64
  rw [show (K.n : Int) / 64 * 64 - 1 = (((2 ^ e : Nat) : Int) - 1) by rw [← h3]; omega, i64_mask _ e (by omega), wrap64_mod _ e (by omega), ← h3]
  unfold Bl.plc plS atS
  rw [← Int.natCast_emod]
section
variable {w : World} {p g q : Nat} {K : Bl}
theorem eachHas {I : Nat → World → Prop} (T B : Nat) (s : IsBl w p g q K) (hK : K.Ok) (key : ByteArray) (hs : key.size ≤ maxLen) (h0 : I 0 (w.alloc (.cells #[.int .u64 K.seed, .bool false] 61)))
    (hc : ∀ i W, I i W → W.cell? ⟨p, 4, none⟩ = some (.slice (some ⟨g, 0, none⟩) (K.n / 64) q))
    (hstep : ∀ i W, i < K.h → I i W → Calls Try.prog 37 #[.int .i64 ((K.plc key.data.toList i : Nat) : Int), .pointer (some ⟨T, 0, none⟩), .pointer (some ⟨B, 0, none⟩)] W fun e w' => e = .returned (.tuple #[]) ∧ I (i + 1) w') :
    Calls Try.prog 36 #[.pointer (some ⟨p, 0, none⟩), .string key, .func (.func 37) #[] #[.pointer (some ⟨T, 0, none⟩), .pointer (some ⟨B, 0, none⟩)]] w fun e w' => e = .returned (.tuple #[]) ∧ I K.h w' := by
  obtain ⟨c0, c1, c2, c3, c4⟩ := s.cells
  have hp := s.lt.1
  have k0 : (w.alloc (.cells #[.int .u64 K.seed, .bool false] 61)).cell? ⟨p, 0, none⟩ = some (.int .i64 (K.h : Nat)) := by rw [World.cell?_alloc_lt _ _ _ hp]; exact c0
  have hh := hK.hash
  have hseed := hK.seed
  have h64 := hK.n64
  have hS := sumI_word K.seed key.data.toList
  have hsum : sumI K.seed false key.data.toList = K.sum key.data.toList := rfl
  generalize hSS : sumI K.seed false key.data.toList = S at *
  have e1 := low_law hS
  have e2 := step_law hS
  obtain ⟨hS0, hS1⟩ := hS
  obtain ⟨h641, h642, h643⟩ := h64
  obtain ⟨hh1, hh2⟩ := hh
  have HSS := Lib.hid hSS
  have Hsum := Lib.hid hsum
  have HC := Lib.hid hc
  have HStep := Lib.hid hstep
  clear hSS hsum h643 s hc hstep
  go_enter Try.func36, Try.ntmps36
  go_upto_region 1 with (first | (go_at_call 43; refine (sum_any _ hseed false key hs _).mono ?_; rintro e w1 ⟨rfl, rfl⟩; rw [HSS.out]))
  refine wp_seen (fun W => I 0 W ∧ W.cell? ⟨p, 0, none⟩ = some (.int .i64 (K.h : Nat))) ⟨h0, k0⟩ ?_
  rintro W ⟨i0, kk⟩
  clear h0 k0 c0 c1 c2 c3 c4
  go_wp2_with fail
  clear kk e1
  go_loopw [7, 24] (fun a x wr => ∃ i : Nat, i ≤ K.h ∧ a = .int .u64 ((atS S i : Nat) : Int) ∧ x = .int .i64 (i : Nat) ∧ I i wr) (fun _ x _ => K.h - (intOf x).toNat)
  case atStart => exact ⟨0, Nat.zero_le _, by rw [atS_zero], rfl, i0⟩
  case round =>
    obtain ⟨i, hi, rfl, rfl, hI⟩ := hrel
    clear i0
    by_cases hlt : i < K.h
    · have k4 := HC.out i wr hI
      have hpl : bits .and .i64 (wrap64 ((atS S i : Nat) : Int)) ((K.n : Int) / 64 * 64 - 1) = ((K.plc key.data.toList i : Nat) : Int) := by rw [Hsum.out]; exact plc_law K hK key.data.toList i
      have hb : K.n / 64 ≤ 16384 := by omega
      go_wp2_with fail
      refine (HStep.out i wr hlt hI).mono ?_
      rintro e w2 ⟨rfl, hI2⟩
      go_wp2_with fail
      go_roundw
      case rel => exact ⟨i + 1, by omega, by rw [atS_succ], by go_num, hI2⟩
      case measure => simp [intOf]; omega
    · obtain rfl : K.h = i := by omega
      go_wp2_with fail
      go_end0
      exact ⟨rfl, hI⟩
theorem eachAdd {I : Nat → World → Prop} (B : Nat) (s : IsBl w p g q K) (hK : K.Ok) (key : ByteArray) (hs : key.size ≤ maxLen) (h0 : I 0 (w.alloc (.cells #[.int .u64 K.seed, .bool false] 61)))
    (hc : ∀ i W, I i W → W.cell? ⟨p, 4, none⟩ = some (.slice (some ⟨g, 0, none⟩) (K.n / 64) q))
    (hstep : ∀ i W, i < K.h → I i W → Calls Try.prog 39 #[.int .i64 ((K.plc key.data.toList i : Nat) : Int), .pointer (some ⟨B, 0, none⟩)] W fun e w' => e = .returned (.tuple #[]) ∧ I (i + 1) w') :
    Calls Try.prog 36 #[.pointer (some ⟨p, 0, none⟩), .string key, .func (.func 39) #[] #[.pointer (some ⟨B, 0, none⟩)]] w fun e w' => e = .returned (.tuple #[]) ∧ I K.h w' := by
  obtain ⟨c0, c1, c2, c3, c4⟩ := s.cells
  have hp := s.lt.1
  have k0 : (w.alloc (.cells #[.int .u64 K.seed, .bool false] 61)).cell? ⟨p, 0, none⟩ = some (.int .i64 (K.h : Nat)) := by rw [World.cell?_alloc_lt _ _ _ hp]; exact c0
  have hh := hK.hash
  have hseed := hK.seed
  have h64 := hK.n64
  have hS := sumI_word K.seed key.data.toList
  have hsum : sumI K.seed false key.data.toList = K.sum key.data.toList := rfl
  generalize hSS : sumI K.seed false key.data.toList = S at *
  have e1 := low_law hS
  have e2 := step_law hS
  obtain ⟨hS0, hS1⟩ := hS
  obtain ⟨h641, h642, h643⟩ := h64
  obtain ⟨hh1, hh2⟩ := hh
  have HSS := Lib.hid hSS
  have Hsum := Lib.hid hsum
  have HC := Lib.hid hc
  have HStep := Lib.hid hstep
  clear hSS hsum h643 s hc hstep
  go_enter Try.func36, Try.ntmps36
  go_upto_region 1 with (first | (go_at_call 43; refine (sum_any _ hseed false key hs _).mono ?_; rintro e w1 ⟨rfl, rfl⟩; rw [HSS.out]))
  refine wp_seen (fun W => I 0 W ∧ W.cell? ⟨p, 0, none⟩ = some (.int .i64 (K.h : Nat))) ⟨h0, k0⟩ ?_
  rintro W ⟨i0, kk⟩
  clear h0 k0 c0 c1 c2 c3 c4
  go_wp2_with fail
  clear kk e1
  go_loopw [7, 24] (fun a x wr => ∃ i : Nat, i ≤ K.h ∧ a = .int .u64 ((atS S i : Nat) : Int) ∧ x = .int .i64 (i : Nat) ∧ I i wr) (fun _ x _ => K.h - (intOf x).toNat)
  case atStart => exact ⟨0, Nat.zero_le _, by rw [atS_zero], rfl, i0⟩
  case round =>
    obtain ⟨i, hi, rfl, rfl, hI⟩ := hrel
    clear i0
    by_cases hlt : i < K.h
    · have k4 := HC.out i wr hI
      have hpl : bits .and .i64 (wrap64 ((atS S i : Nat) : Int)) ((K.n : Int) / 64 * 64 - 1) = ((K.plc key.data.toList i : Nat) : Int) := by rw [Hsum.out]; exact plc_law K hK key.data.toList i
      have hb : K.n / 64 ≤ 16384 := by omega
      go_wp2_with fail
      refine (HStep.out i wr hlt hI).mono ?_
      rintro e w2 ⟨rfl, hI2⟩
      go_wp2_with fail
      go_roundw
      case rel => exact ⟨i + 1, by omega, by rw [atS_succ], by go_num, hI2⟩
      case measure => simp [intOf]; omega
    · obtain rfl : K.h = i := by omega
      go_wp2_with fail
      go_end0
      exact ⟨rfl, hI⟩
theorem eachPlaces {I : Nat → World → Prop} (T : Nat) (s : IsBl w p g q K) (hK : K.Ok) (key : ByteArray) (hs : key.size ≤ maxLen) (h0 : I 0 (w.alloc (.cells #[.int .u64 K.seed, .bool false] 61)))
    (hc : ∀ i W, I i W → W.cell? ⟨p, 4, none⟩ = some (.slice (some ⟨g, 0, none⟩) (K.n / 64) q))
    (hstep : ∀ i W, i < K.h → I i W → Calls Try.prog 40 #[.int .i64 ((K.plc key.data.toList i : Nat) : Int), .pointer (some ⟨T, 0, none⟩)] W fun e w' => e = .returned (.tuple #[]) ∧ I (i + 1) w') :
    Calls Try.prog 36 #[.pointer (some ⟨p, 0, none⟩), .string key, .func (.func 40) #[] #[.pointer (some ⟨T, 0, none⟩)]] w fun e w' => e = .returned (.tuple #[]) ∧ I K.h w' := by
  obtain ⟨c0, c1, c2, c3, c4⟩ := s.cells
  have hp := s.lt.1
  have k0 : (w.alloc (.cells #[.int .u64 K.seed, .bool false] 61)).cell? ⟨p, 0, none⟩ = some (.int .i64 (K.h : Nat)) := by rw [World.cell?_alloc_lt _ _ _ hp]; exact c0
  have hh := hK.hash
  have hseed := hK.seed
  have h64 := hK.n64
  have hS := sumI_word K.seed key.data.toList
  have hsum : sumI K.seed false key.data.toList = K.sum key.data.toList := rfl
  generalize hSS : sumI K.seed false key.data.toList = S at *
  have e1 := low_law hS
  have e2 := step_law hS
  obtain ⟨hS0, hS1⟩ := hS
  obtain ⟨h641, h642, h643⟩ := h64
  obtain ⟨hh1, hh2⟩ := hh
  have HSS := Lib.hid hSS
  have Hsum := Lib.hid hsum
  have HC := Lib.hid hc
  have HStep := Lib.hid hstep
  clear hSS hsum h643 s hc hstep
  go_enter Try.func36, Try.ntmps36
  go_upto_region 1 with (first | (go_at_call 43; refine (sum_any _ hseed false key hs _).mono ?_; rintro e w1 ⟨rfl, rfl⟩; rw [HSS.out]))
  refine wp_seen (fun W => I 0 W ∧ W.cell? ⟨p, 0, none⟩ = some (.int .i64 (K.h : Nat))) ⟨h0, k0⟩ ?_
  rintro W ⟨i0, kk⟩
  clear h0 k0 c0 c1 c2 c3 c4
  go_wp2_with fail
  clear kk e1
  go_loopw [7, 24] (fun a x wr => ∃ i : Nat, i ≤ K.h ∧ a = .int .u64 ((atS S i : Nat) : Int) ∧ x = .int .i64 (i : Nat) ∧ I i wr) (fun _ x _ => K.h - (intOf x).toNat)
  case atStart => exact ⟨0, Nat.zero_le _, by rw [atS_zero], rfl, i0⟩
  case round =>
    obtain ⟨i, hi, rfl, rfl, hI⟩ := hrel
    clear i0
    by_cases hlt : i < K.h
    · have k4 := HC.out i wr hI
      have hpl : bits .and .i64 (wrap64 ((atS S i : Nat) : Int)) ((K.n : Int) / 64 * 64 - 1) = ((K.plc key.data.toList i : Nat) : Int) := by rw [Hsum.out]; exact plc_law K hK key.data.toList i
      have hb : K.n / 64 ≤ 16384 := by omega
      go_wp2_with fail
      refine (HStep.out i wr hlt hI).mono ?_
      rintro e w2 ⟨rfl, hI2⟩
      go_wp2_with fail
      go_roundw
      case rel => exact ⟨i + 1, by omega, by rw [atS_succ], by go_num, hI2⟩
      case measure => simp [intOf]; omega
    · obtain rfl : K.h = i := by omega
      go_wp2_with fail
      go_end0
      exact ⟨rfl, hI⟩
end
end Go.Proofs.Ytihgidkkdjmlkaa
