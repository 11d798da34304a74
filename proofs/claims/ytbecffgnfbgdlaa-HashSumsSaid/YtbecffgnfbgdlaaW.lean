/-
  The walks of the five laws on hashes: each returns true, and writes nothing that was there.
-/
import Derived.Test.YtbecffgnfbgdlaaK
import Derived.Deep.RegionHeld3
namespace Go.Proofs.Ytbecffgnfbgdlaa
open Go.ChangeShapes Go.WideShapes Go.ChangeAt Go.RowKit
set_option linter.unusedVariables false

theorem known_from (B : Nat) (w v : World) (hb : Below B w v) (hB : B ≤ v.heap.size) : Calls Try.prog 10 #[] v fun e w' => e = .returned (.bool true) ∧ Below B w w' :=
  (known_any v).mono fun e w' ⟨he, h⟩ => ⟨he, hb.trans (h.mono hB)⟩

theorem word_wf {x : Int} (h : (Lit.int .u64 x).wf = true) : 0 ≤ x ∧ x < 18446744073709551616 := by
  have := bounds_u64 h; omega

theorem hashMixes_walk (a0 : Int) (w0 : (Lit.int .u64 a0).wf = true) (w : World) :
    Calls Try.prog 3 #[.int .u64 a0] w fun e w' => e = .returned (.bool true) ∧ Below w.heap.size w w' := by
  obtain ⟨h0, h1⟩ := word_wf w0
  clear w0
  go_enter Try.func3, Try.ntmps3
  go_wp2_with fail
  refine (mix_any _ h0 h1 _).mono ?_
  rintro e w' ⟨rfl, rfl⟩
  go_wp2_with fail
  refine (refmix_any _ h0 h1 _).mono ?_
  rintro e w' ⟨rfl, rfl⟩
  go_wp2_with fail
  refine (known_any _).mono ?_
  rintro e w' ⟨rfl, hb⟩
  go_wp2_with fail
  go_ret
  exact ⟨rfl, hb⟩

theorem hashParts_walk (a0 : Int) (w0 : (Lit.int .u64 a0).wf = true) (w : World) :
    Calls Try.prog 5 #[.int .u64 a0] w fun e w' => e = .returned (.bool true) ∧ Below w.heap.size w w' := by
  obtain ⟨h0, h1⟩ := word_wf w0
  clear w0
  go_enter Try.func5, Try.ntmps5
  go_wp2_with fail
  refine (tag_any _ h0 h1 _).mono ?_
  rintro e w' ⟨rfl, rfl⟩
  go_wp2_with fail
  refine (reftag_any _ h0 h1 _).mono ?_
  rintro e w' ⟨rfl, rfl⟩
  go_wp2_with fail
  refine (part_any _ h0 h1 _).mono ?_
  rintro e w' ⟨rfl, rfl⟩
  go_wp2_with fail
  refine (refpart_any _ h0 h1 _).mono ?_
  rintro e w' ⟨rfl, rfl⟩
  go_wp2_with fail
  refine (known_any _).mono ?_
  rintro e w' ⟨rfl, hb⟩
  go_wp2_with fail
  go_ret
  exact ⟨rfl, hb⟩

set_option maxHeartbeats 1600000 in
theorem hashSums_walk (a0 : Int) (a1 : Bool) (a2 : ByteArray) (w0 : (Lit.int .u64 a0).wf = true) (w2 : a2.size ≤ maxLen) (w : World) :
    Calls Try.prog 4 #[.int .u64 a0, .bool a1, .string a2] w fun e w' => e = .returned (.bool true) ∧ Below w.heap.size w w' := by
  obtain ⟨h0, h1⟩ := word_wf w0
  clear w0
  by_cases hl : 600 < a2.size
  · go_enter Try.func4, Try.ntmps4
    go_wp2_with fail
    refine (known_any _).mono ?_
    rintro e w' ⟨rfl, hb⟩
    go_wp2_with fail
    go_ret
    exact ⟨rfl, hb⟩
  · have hm : (sumI a0 a1 a2.data.toList == sumI a0 a1 a2.data.toList) = true := by simp
    go_enter Try.func4, Try.ntmps4
    go_wp2_with fail
    refine (new_any _ _ _).mono ?_
    rintro e w' ⟨rfl, rfl⟩
    go_wp2_with fail
    refine (seed_any _ _ _).mono ?_
    rintro e w' ⟨rfl, n, rfl⟩
    go_wp2_with fail
    refine (sum_any _ ⟨h0, h1⟩ _ _ w2 _).mono ?_
    rintro e w' ⟨rfl, rfl⟩
    go_wp2_with fail
    refine (refsum_any _ ⟨h0, h1⟩ _ _ w2 _).mono ?_
    rintro e w' ⟨rfl, rfl⟩
    go_wp2_with fail
    refine (sum_any _ ⟨by omega, by omega⟩ _ _ w2 _).mono ?_
    rintro e w' ⟨rfl, rfl⟩
    go_wp2_with fail
    refine (refsum_any _ ⟨by omega, by omega⟩ _ _ w2 _).mono ?_
    rintro e w' ⟨rfl, rfl⟩
    go_wp2_with fail
    refine (known_from w.heap.size w _ (by repeat (first | exact Below.refl _ _ | refine Below.alloc ?_ (by simp <;> omega) _ | refine below_drewN ?_ _)) (by simp <;> omega)).mono ?_
    rintro e w' ⟨rfl, hb⟩
    go_wp2_with fail
    go_ret
    exact ⟨rfl, hb⟩
end Go.Proofs.Ytbecffgnfbgdlaa
