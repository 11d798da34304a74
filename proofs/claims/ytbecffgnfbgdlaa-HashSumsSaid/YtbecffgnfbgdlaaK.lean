/-
  The examples of the chapter on hashes, as the law's own function 'known' asks them: it returns true, and writes nothing that was there.
-/
import Derived.Test.YtbecffgnfbgdlaaA
namespace Go.Proofs.Ytbecffgnfbgdlaa
open Go.ChangeShapes Go.WideShapes Go.ChangeAt Go.RowKit
set_option linter.unusedVariables false

theorem below_drewN {B : Nat} {a w : World} (h : Below B a w) (n : Nat) : Below B a (w.drewN n) := ⟨h.os, h.tape, h.output, h.size, h.block⟩
theorem and_127 (x : Int) (h0 : 0 ≤ x) (h1 : x < 18446744073709551616) : bits .and .u64 x 127 = x % 128 := by
  rw [u64_and x 127 h0 h1 (by omega) (by omega)]
  have := nat_mask7 x.toNat
  show ((x.toNat &&& 127 : Nat) : Int) = _
  rw [this]; omega
theorem tag_any (x : Int) (h0 : 0 ≤ x) (h1 : x < 18446744073709551616) (w : World) :
    Calls Try.prog 15 #[.int .u64 x] w fun e w' => e = .returned (.int .u8 (x % 128)) ∧ w = w' := by
  go_enter Try.func15, Try.ntmps15
  go_wp2
  go_ret
  exact ⟨by show Ending.returned (.int .u8 (bits .and .u64 x 127 % 256)) = _; rw [and_127 x h0 h1, Int.emod_eq_of_lt (by omega) (by omega)], rfl⟩
theorem reftag_any (x : Int) (h0 : 0 ≤ x) (h1 : x < 18446744073709551616) (w : World) :
    Calls Try.prog 16 #[.int .u64 x] w fun e w' => e = .returned (.int .u8 (x % 128)) ∧ w = w' := by
  go_enter Try.func16, Try.ntmps16
  go_wp2
  go_ret
  exact ⟨rfl, rfl⟩
theorem part_any (x : Int) (h0 : 0 ≤ x) (h1 : x < 18446744073709551616) (w : World) :
    Calls Try.prog 17 #[.int .u64 x] w fun e w' => e = .returned (.int .u64 (x / 128)) ∧ w = w' := by
  go_enter Try.func17, Try.ntmps17
  go_wp2
  go_ret
  exact ⟨rfl, rfl⟩
theorem refpart_any (x : Int) (h0 : 0 ≤ x) (h1 : x < 18446744073709551616) (w : World) :
    Calls Try.prog 18 #[.int .u64 x] w fun e w' => e = .returned (.int .u64 (x / 128)) ∧ w = w' := by
  go_enter Try.func18, Try.ntmps18
  go_wp2_with (go_at_call 19; refine (right_7 _ h0 h1 _).mono ?_; rintro e w' ⟨rfl, rfl⟩)
  go_ret
  exact ⟨rfl, rfl⟩

theorem k0 : mixI 0 = 0 := by decide +kernel
theorem k1 : mixI 1 = 5 := by decide +kernel
theorem k2 : mixI 536870912 = 2684354565 := by decide +kernel
theorem k3 : sumI 0 false [] = 0 := by decide +kernel
theorem k4 : sumI 0 false [97] = 533263140750623 := by decide +kernel
theorem k5 : sumI 7 true [97] = 35 := by decide +kernel
theorem k6 : sumI 7 true [98] = 35 := by decide +kernel

theorem mix_at (x y : Int) (h0 : 0 ≤ x) (h1 : x < 18446744073709551616) (h : mixI x = y) (w : World) :
    Calls Try.prog 8 #[.int .u64 x] w fun e w' => e = .returned (.int .u64 y) ∧ w = w' := h ▸ mix_any x h0 h1 w
theorem sum_at (h : Int) (same : Bool) (l : Array UInt8) (y : Int) (h0 : 0 ≤ h) (h1 : h < 18446744073709551616) (hs : l.size ≤ maxLen) (hy : sumI h same l.toList = y) (w : World) :
    Calls Try.prog 13 #[.agg #[.int .u64 h, .bool same], .string ⟨l⟩] w fun e w' => e = .returned (.int .u64 y) ∧ w' = w.alloc (.cells #[.int .u64 h, .bool same] 27) := hy ▸ sum_any h ⟨h0, h1⟩ same ⟨l⟩ hs w

set_option maxHeartbeats 1600000 in
theorem known_any (w : World) : Calls Try.prog 10 #[] w fun e w' => e = .returned (.bool true) ∧ Below w.heap.size w w' := by
  go_enter Try.func10, Try.ntmps10
  go_wp2_with fail
  refine (mix_at 0 _ (by omega) (by omega) k0 _).mono ?_
  rintro e w' ⟨rfl, rfl⟩
  go_wp2_with fail
  refine (mix_at 1 _ (by omega) (by omega) k1 _).mono ?_
  rintro e w' ⟨rfl, rfl⟩
  go_wp2_with fail
  refine (mix_at 536870912 _ (by omega) (by omega) k2 _).mono ?_
  rintro e w' ⟨rfl, rfl⟩
  go_wp2_with fail
  refine (new_any 0 false _).mono ?_
  rintro e w' ⟨rfl, rfl⟩
  go_wp2_with fail
  refine (new_any 7 true _).mono ?_
  rintro e w' ⟨rfl, rfl⟩
  go_wp2_with fail
  refine (seed_any 7 true _).mono ?_
  rintro e w' ⟨rfl, n, rfl⟩
  go_wp2_with fail
  refine (sum_at 0 false #[] _ (by omega) (by omega) (by simp [maxLen]) k3 _).mono ?_
  rintro e w' ⟨rfl, rfl⟩
  go_wp2_with fail
  refine (sum_at 0 false #[97] _ (by omega) (by omega) (by simp [maxLen]) k4 _).mono ?_
  rintro e w' ⟨rfl, rfl⟩
  go_wp2_with fail
  refine (sum_at 7 true #[97] _ (by omega) (by omega) (by simp [maxLen]) k5 _).mono ?_
  rintro e w' ⟨rfl, rfl⟩
  go_wp2_with fail
  refine (sum_at 7 true #[98] _ (by omega) (by omega) (by simp [maxLen]) k6 _).mono ?_
  rintro e w' ⟨rfl, rfl⟩
  go_wp2_with fail
  refine (tag_any 533263140750623 (by omega) (by omega) _).mono ?_
  rintro e w' ⟨rfl, rfl⟩
  go_wp2_with fail
  refine (part_any 35 (by omega) (by omega) _).mono ?_
  rintro e w' ⟨rfl, rfl⟩
  go_wp2_with fail
  refine (tag_any 127 (by omega) (by omega) _).mono ?_
  rintro e w' ⟨rfl, rfl⟩
  go_wp2_with fail
  refine (tag_any 128 (by omega) (by omega) _).mono ?_
  rintro e w' ⟨rfl, rfl⟩
  go_wp2_with fail
  go_ret
  exact ⟨rfl, by repeat (first | exact Below.refl _ _ | refine Below.alloc ?_ (by simp <;> omega) _ | refine below_drewN ?_ _)⟩
end Go.Proofs.Ytbecffgnfbgdlaa
