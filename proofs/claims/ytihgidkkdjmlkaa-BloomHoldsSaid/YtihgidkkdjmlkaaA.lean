/-
  Contracts of the functions of packages hash and cubbyholeref02: what each computes, for every word and every string within the model's length.
-/
import Derived.Test.YtihgidkkdjmlkaaRows
import Derived.WalkKit
import Derived.ProofKit
import Derived.OpenShut
import Derived.ShutString
import Derived.Outline
import Derived.WalkLawsBesides
import Derived.BigQuiet
import Derived.Deep.QuietTactic
import Derived.Lib.Hide
import Derived.Laws.Bits64
namespace Go.Proofs.Ytihgidkkdjmlkaa
open Go.ChangeShapes Go.WideShapes Go.ChangeAt Go.RowKit
set_option linter.unusedVariables false

/-- A word. -/
def Word (x : Int) : Prop := 0 ≤ x ∧ x < 18446744073709551616

def mixY (x : Int) : Int := IntKind.u64.wrap (5 * bits .xor .u64 x (x / 536870912))
def mixI (x : Int) : Int := bits .xor .u64 (mixY x) (mixY x / 4294967296)

theorem wrap_word (x : Int) : 0 ≤ IntKind.u64.wrap x ∧ IntKind.u64.wrap x < 18446744073709551616 := by
  rw [IntKind.wrap_u64]; omega
theorem xor_word (a b : Int) : 0 ≤ bits .xor .u64 a b ∧ bits .xor .u64 a b < 18446744073709551616 := by
  show 0 ≤ IntKind.u64.wrap _ ∧ IntKind.u64.wrap _ < _
  exact wrap_word _
theorem mixI_word (x : Int) : 0 ≤ mixI x ∧ mixI x < 18446744073709551616 := xor_word _ _

theorem mix_any (x : Int) (h0 : 0 ≤ x) (h1 : x < 18446744073709551616) (w : World) :
    Calls Try.prog 45 #[.int .u64 x] w fun e w' => e = .returned (.int .u64 (mixI x)) ∧ w = w' := by
  go_enter Try.func45, Try.ntmps45
  go_wp2
  go_ret
  exact ⟨rfl, rfl⟩

theorem ret_u64 {a b : Int} (h : a = b) : Ending.returned (.int .u64 a) = .returned (.int .u64 b) := by rw [h]

theorem half_pow (x : Int) (k : Nat) : x / ((2 ^ k : Nat) : Int) / 2 = x / ((2 ^ (k + 1) : Nat) : Int) := by
  rw [Int.ediv_ediv_of_nonneg (Int.natCast_nonneg _)]
  congr 1
theorem div_le' (x : Int) (k : Nat) (h0 : 0 ≤ x) : 0 ≤ x / ((2 ^ k : Nat) : Int) ∧ x / ((2 ^ k : Nat) : Int) ≤ x :=
  ⟨Int.ediv_nonneg h0 (Int.natCast_nonneg _), Int.ediv_le_self _ h0⟩

set_option maxHeartbeats 400000 in
theorem right_any (x : Int) (n : Nat) (hn : n ≤ 64) (h0 : 0 ≤ x) (h1 : x < 18446744073709551616) (w : World) :
    Calls Try.prog 44 #[.int .u64 x, .int .i64 n] w fun e w' => e = .returned (.int .u64 (x / ((2 ^ n : Nat) : Int))) ∧ w = w' := by
  go_enter Try.func44, Try.ntmps44
  go_wp2
  go_loop [0, 5] (fun v i => ∃ k : Nat, k ≤ n ∧ i = .int .i64 k ∧ v = .int .u64 (x / ((2 ^ k : Nat) : Int))) (fun _ i => n - (intOf i).toNat)
  case atStart => exact ⟨0, Nat.zero_le _, rfl, by simp⟩
  case round =>
    obtain ⟨k, hk, rfl, rfl⟩ := hrel
    have hd := div_le' x k h0
    have hh := Lib.hid (half_pow x k)
    generalize hy : x / ((2 ^ k : Nat) : Int) = y at *
    have HY := Lib.hid hy
    clear hy
    by_cases hlt : k < n
    · go_wp2
      go_round
      case rel => exact ⟨k + 1, by omega, by go_num, by rw [← hh.out]⟩
      case measure => simp [intOf]; omega
    · go_wp2
      go_ret
      obtain rfl : k = n := by omega
      exact ⟨ret_u64 HY.out.symm, rfl⟩

theorem right_29 (x : Int) (h0 : 0 ≤ x) (h1 : x < 18446744073709551616) (w : World) :
    Calls Try.prog 44 #[.int .u64 x, .int .i64 29] w fun e w' => e = .returned (.int .u64 (x / 536870912)) ∧ w = w' := right_any x 29 (by omega) h0 h1 w
theorem right_32 (x : Int) (h0 : 0 ≤ x) (h1 : x < 18446744073709551616) (w : World) :
    Calls Try.prog 44 #[.int .u64 x, .int .i64 32] w fun e w' => e = .returned (.int .u64 (x / 4294967296)) ∧ w = w' := right_any x 32 (by omega) h0 h1 w
theorem right_7 (x : Int) (h0 : 0 ≤ x) (h1 : x < 18446744073709551616) (w : World) :
    Calls Try.prog 44 #[.int .u64 x, .int .i64 7] w fun e w' => e = .returned (.int .u64 (x / 128)) ∧ w = w' := right_any x 7 (by omega) h0 h1 w

theorem five (y : Int) : IntKind.u64.wrap (IntKind.u64.wrap (IntKind.u64.wrap (IntKind.u64.wrap (y + y) + y) + y) + y) = IntKind.u64.wrap (5 * y) := by
  simp only [IntKind.wrap_u64]; omega

theorem refmix_any (x : Int) (h0 : 0 ≤ x) (h1 : x < 18446744073709551616) (w : World) :
    Calls Try.prog 42 #[.int .u64 x] w fun e w' => e = .returned (.int .u64 (mixI x)) ∧ w = w' := by
  go_enter Try.func42, Try.ntmps42
  go_wp2_with fail
  refine (right_29 x h0 h1 _).mono ?_
  rintro e w' ⟨rfl, rfl⟩
  go_wp2_with fail
  refine (right_32 _ (wrap_word _).1 (wrap_word _).2 _).mono ?_
  rintro e w' ⟨rfl, rfl⟩
  go_wp2_with fail
  go_ret
  exact ⟨ret_u64 (by rw [five]; rfl), rfl⟩

/-- One byte folded into a number. -/
def step (h : Int) (c : UInt8) : Int := IntKind.u64.wrap (bits .xor .u64 h (c.toNat : Int) * 1099511628211)
def foldI (h : Int) (l : List UInt8) : Int := l.foldl step h
theorem wrap_byte (c : UInt8) : IntKind.u64.wrap (c.toNat : Int) = (c.toNat : Int) := by
  have := c.toNat_lt; rw [IntKind.wrap_u64]; omega
theorem foldI_word (h : Int) (h0 : Word h) (l : List UInt8) : Word (foldI h l) := by
  unfold foldI
  induction l generalizing h with
  | nil => exact h0
  | cons c l ih => exact ih _ (wrap_word _)
theorem take_snoc (s : ByteArray) (k : Nat) (h : k < s.size) : s.data.toList.take (k + 1) = s.data.toList.take k ++ [s[k]] := by
  rw [List.take_succ_eq_append_getElem (by simpa using h)]; rfl
theorem foldI_snoc (h : Int) (s : ByteArray) (k : Nat) (hk : k < s.size) : foldI h (s.data.toList.take (k + 1)) = IntKind.u64.wrap (bits .xor .u64 (foldI h (s.data.toList.take k)) (s[k].toNat : Int) * 1099511628211) := by
  rw [take_snoc s k hk]; unfold foldI; rw [List.foldl_append]; rfl
theorem foldI_all (h : Int) (s : ByteArray) (k : Nat) (hk : k = s.size) : foldI h (s.data.toList.take k) = foldI h s.data.toList := by
  subst hk; rw [List.take_of_length_le (by simp)]

set_option maxHeartbeats 400000 in
theorem fold_any (h : Int) (hw : Word h) (s : ByteArray) (hs : s.size ≤ maxLen) (w : World) :
    Calls Try.prog 46 #[.int .u64 h, .string s] w fun e w' => e = .returned (.int .u64 (foldI h s.data.toList)) ∧ w = w' := by
  unfold maxLen at hs
  obtain ⟨h0, h1⟩ := hw
  go_enter Try.func46, Try.ntmps46
  go_wp2
  go_loop [0, 8] (fun v i => ∃ k : Nat, k ≤ s.size ∧ i = .int .i64 k ∧ v = .int .u64 (foldI h (s.data.toList.take k))) (fun _ i => s.size - (intOf i).toNat)
  case atStart => exact ⟨0, Nat.zero_le _, rfl, by simp [foldI]⟩
  case round =>
    obtain ⟨k, hk, rfl, rfl⟩ := hrel
    have hd := foldI_word h ⟨h0, h1⟩ (s.data.toList.take k)
    by_cases hlt : k < s.size
    · have HS := Lib.hid (foldI_snoc h s k hlt)
      generalize foldI h (s.data.toList.take k) = y at *
      obtain ⟨y0, y1⟩ := hd
      go_wp2
      go_round
      case rel => exact ⟨k + 1, by omega, by go_num, by rw [HS.out, wrap_byte]⟩
      case measure => simp [intOf]; omega
    · have HS := Lib.hid (foldI_all h s k (by omega))
      go_wp2
      go_ret
      exact ⟨ret_u64 HS.out, rfl⟩

/-- The hash of a key. -/
def sumI (seed : Int) (same : Bool) (l : List UInt8) : Int := mixI (foldI seed (if same then [] else l))

set_option maxHeartbeats 400000 in
theorem refsum_any (h : Int) (hw : Word h) (same : Bool) (s : ByteArray) (hs : s.size ≤ maxLen) (w : World) :
    Calls Try.prog 34 #[.int .u64 h, .bool same, .string s] w fun e w' => e = .returned (.int .u64 (sumI h same s.data.toList)) ∧ w = w' := by
  unfold maxLen at hs
  obtain ⟨h0, h1⟩ := hw
  cases same
  · go_enter Try.func34, Try.ntmps34
    go_wp2
    go_loop [7, 8] (fun v i => ∃ k : Nat, k ≤ s.size ∧ i = .int .i64 k ∧ v = .int .u64 (foldI h (s.data.toList.take k))) (fun _ i => s.size - (intOf i).toNat)
    case atStart => exact ⟨0, Nat.zero_le _, rfl, by simp [foldI]⟩
    case round =>
      obtain ⟨k, hk, rfl, rfl⟩ := hrel
      have hd := foldI_word h ⟨h0, h1⟩ (s.data.toList.take k)
      by_cases hlt : k < s.size
      · have HS := Lib.hid (foldI_snoc h s k hlt)
        generalize foldI h (s.data.toList.take k) = y at *
        obtain ⟨y0, y1⟩ := hd
        go_wp2
        go_round
        case rel => exact ⟨k + 1, by omega, by go_num, by rw [HS.out, Int.mul_comm, wrap_byte]⟩
        case measure => simp [intOf]; omega
      · have HS := Lib.hid (foldI_all h s k (by omega))
        obtain ⟨y0, y1⟩ := hd
        go_wp2_with (go_at_call 42; refine (refmix_any _ (by assumption) (by assumption) _).mono ?_; rintro e w' ⟨rfl, rfl⟩)
        go_ret
        exact ⟨ret_u64 (by rw [HS.out]; rfl), rfl⟩
  · go_enter Try.func34, Try.ntmps34
    go_wp2
    refine wp_loop_rounds 1 ?_
    rw [rounds_succ]
    by_cases hz : 0 < s.size
    · go_wp2_with (go_at_call 42; refine (refmix_any _ (by assumption) (by assumption) _).mono ?_; rintro e w' ⟨rfl, rfl⟩)
      go_ret
      exact ⟨rfl, rfl⟩
    · go_wp2_with (go_at_call 42; refine (refmix_any _ (by assumption) (by assumption) _).mono ?_; rintro e w' ⟨rfl, rfl⟩)
      go_ret
      exact ⟨rfl, rfl⟩

theorem new_any (x : Int) (b : Bool) (w : World) :
    Calls Try.prog 29 #[.int .u64 x, .bool b] w fun e w' => e = .returned (.agg #[.int .u64 x, .bool b]) ∧ w' = w.alloc (.cells #[.int .u64 x, .bool b] 61) := by
  go_enter Try.func29, Try.ntmps29
  go_wp2
  exact bodyPost_ret (v := .agg #[.int .u64 x, .bool b]) (by simp [results, Try.results29, go_sem]) rfl ⟨rfl, rfl⟩

theorem sum_any (h : Int) (hw : Word h) (same : Bool) (s : ByteArray) (hs : s.size ≤ maxLen) (w : World) :
    Calls Try.prog 43 #[.agg #[.int .u64 h, .bool same], .string s] w fun e w' => e = .returned (.int .u64 (sumI h same s.data.toList)) ∧ w' = w.alloc (.cells #[.int .u64 h, .bool same] 61) := by
  obtain ⟨h0, h1⟩ := hw
  cases same
  · go_enter Try.func43, Try.ntmps43
    go_wp2_with (first | (go_at_call 46; refine (fold_any h ⟨h0, h1⟩ s hs _).mono ?_; rintro e w' ⟨rfl, rfl⟩) | (go_at_call 45; refine (mix_any _ (foldI_word h ⟨h0, h1⟩ _).1 (foldI_word h ⟨h0, h1⟩ _).2 _).mono ?_; rintro e w' ⟨rfl, rfl⟩))
    go_ret
    exact ⟨rfl, rfl⟩
  · go_enter Try.func43, Try.ntmps43
    go_wp2_with (first | (go_at_call 46; refine (fold_any h ⟨h0, h1⟩ ⟨#[]⟩ (by simp [ByteArray.size, maxLen]) _).mono ?_; rintro e w' ⟨rfl, rfl⟩) | (go_at_call 45; refine (mix_any _ (foldI_word h ⟨h0, h1⟩ _).1 (foldI_word h ⟨h0, h1⟩ _).2 _).mono ?_; rintro e w' ⟨rfl, rfl⟩))
    go_ret
    exact ⟨rfl, rfl⟩
end Go.Proofs.Ytihgidkkdjmlkaa
