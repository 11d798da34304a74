/-
  The walk of BudgetParts.
-/
import Derived.Test.YtfoccffngdhlfaaG
namespace Go.Proofs.Ytfoccffngdhlfaa
open Go.ChangeShapes Go.WideShapes Go.ChangeAt Go.RowKit
set_option linter.unusedVariables false

theorem inv_new {a b : Int} (hf : okB a b = true) : (newB a b).Inv :=
  ⟨hf, by show (0 : Int) ≤ 0; omega, by show (0 : Int) ≤ 2097152; omega, by show (0 : Int) ≤ 0; omega, by show (0 : Int) ≤ 2305843009213693952; omega, by show (0 : Int) ≤ 0; omega, by show (0 : Int) ≤ 2097152; omega, by show (0 : Int) ≤ 0; omega, by show (0 : Int) ≤ 2305843009213693952; omega⟩
theorem parts_eq (b h : Int) (b0 : 0 ≤ b) (h0 : 0 ≤ h) (h1 : h ≤ 100) : b * h / 100 = b / 100 * h + b % 100 * h / 100 := by
  have e : b * h = b % 100 * h + 100 * (b / 100 * h) := by
    have := Int.emod_add_mul_ediv b 100
    calc b * h = (b % 100 + 100 * (b / 100)) * h := by rw [this]
      _ = _ := by rw [Int.add_mul, Int.mul_assoc]
  rw [e, Int.add_mul_ediv_left _ _ (by omega)]; omega
theorem parts_sum (b h : Int) (b0 : 0 ≤ b) (h0 : 0 ≤ h) (h1 : h ≤ 100) : b * h / 100 + b * (100 - h) / 100 = b ∨ b * h / 100 + b * (100 - h) / 100 = b - 1 := by
  have e : b * (100 - h) = 100 * b - b * h := by rw [Int.mul_sub, Int.mul_comm b 100]
  rw [e]; generalize b * h = x; omega
theorem rem100 (b : Int) (b0 : 0 ≤ b) : b.tmod 100 = b % 100 := Int.tmod_eq_emod_of_nonneg b0
theorem budgetParts_walk (a0 a1 : Int) (w0 : (Lit.int .i64 a0).wf = true) (w1 : (Lit.int .i64 a1).wf = true) (w : World) :
    Calls Try.prog 3 #[.int .i64 a0, .int .i64 a1] w fun e w' => e = .returned (.bool true) ∧ Below w.heap.size w w' := by
  obtain ⟨m0, m1⟩ := bounds_i64 w1
  clear w0 w1
  cases hf : okB 1 a0
  · go_enter Try.func3, Try.ntmps3
    go_wp2_with (first | (go_at_call 9; refine (law_allowed_any _ _ _).mono ?_; rw [hf]; rintro e w' ⟨rfl, rfl⟩) | (go_at_call 10; refine (known_any _).mono ?_; rintro e w' ⟨rfl, hb⟩))
    go_ret
    exact ⟨rfl, hb⟩
  have hI := inv_new hf
  have hA : At (w.alloc (.cells (newB 1 a0).cells 56)) w.heap.size (newB 1 a0) := At.new
  have k1 : Below w.heap.size w (w.alloc (.cells (newB 1 a0).cells 56)) := (Below.refl _ _).alloc (Nat.le_refl _) _
  by_cases hx : a1 < 0 ∨ 100 < a1
  · have h9 := part_no w.heap.size (newB 1 a0) a1 _ hA hI hx
    rcases hx with hx | hx
    all_goals go_enter Try.func3, Try.ntmps3
    all_goals go_wp2_with (first | (go_at_call 9; refine (law_allowed_any _ _ _).mono ?_; rw [hf]; rintro e w' ⟨rfl, rfl⟩) | (go_at_call 11; refine (new_ok _ _ _ hf).mono ?_; rintro e w' ⟨rfl, rfl⟩) | (go_at_call 12; refine h9.mono ?_; rintro e w' ⟨rfl, rfl⟩) | (go_at_call 10; refine (known_any _).mono ?_; rintro e w' ⟨rfl, hb⟩))
    all_goals go_ret
    all_goals exact ⟨rfl, k1.trans (hb.mono k1.size)⟩
  · have hx0 : 0 ≤ a1 := by omega
    have hx1 : a1 ≤ 100 := by omega
    obtain ⟨_, _, o2, o3⟩ := okB_iff.1 hf
    have pe := parts_eq a0 a1 (by omega) hx0 hx1
    have ps := parts_sum a0 a1 (by omega) hx0 hx1
    have s1 : 0 ≤ a0 * a1 := Int.mul_nonneg (by omega) hx0
    have s2 : a0 * a1 ≤ 1099511627776 * 100 := Int.mul_le_mul o3 hx1 hx0 (by omega)
    have s3 : 0 ≤ a0 * (100 - a1) := Int.mul_nonneg (by omega) (by omega)
    have s4 : a0 * (100 - a1) ≤ 1099511627776 * 100 := Int.mul_le_mul o3 (by omega) (by omega) (by omega)
    have s5 : 0 ≤ a0 / 100 * a1 := Int.mul_nonneg (by omega) hx0
    have s6 : a0 / 100 * a1 ≤ 10995116278 * 100 := Int.mul_le_mul (by omega) hx1 hx0 (by omega)
    have s7 : 0 ≤ a0 % 100 * a1 := Int.mul_nonneg (by omega) hx0
    have s8 : a0 % 100 * a1 ≤ 100 * 100 := Int.mul_le_mul (by omega) hx1 hx0 (by omega)
    have v1 : wrap64 (a0 / 100 * a1) = a0 / 100 * a1 := wrap_in (by omega)
    have v2 : wrap64 (a0 % 100 * a1) = a0 % 100 * a1 := wrap_in (by omega)
    have v3 : wrap64 (a0 / 100 * a1 + a0 % 100 * a1 / 100) = a0 * a1 / 100 := by rw [wrap_in (by omega), pe]
    have v4 : wrap64 (100 - a1) = 100 - a1 := wrap_in (by omega)
    have v6 : wrap64 (a0 - 1) = a0 - 1 := wrap_in (by omega)
    have h9 : Calls Try.prog 12 #[.pointer (some ⟨w.heap.size, 0, none⟩), .int .i64 a1] (w.alloc (.cells (newB 1 a0).cells 56)) fun e w' => e = .returned (.tuple #[.int .i64 (a0 * a1 / 100), .int .i64 0]) ∧ w.alloc (.cells (newB 1 a0).cells 56) = w' := part_ok w.heap.size (newB 1 a0) a1 _ hA hI hx0 hx1
    have h8 : Calls Try.prog 12 #[.pointer (some ⟨w.heap.size, 0, none⟩), .int .i64 (100 - a1)] (w.alloc (.cells (newB 1 a0).cells 56)) fun e w' => e = .returned (.tuple #[.int .i64 (a0 * (100 - a1) / 100), .int .i64 0]) ∧ w.alloc (.cells (newB 1 a0).cells 56) = w' := part_ok w.heap.size (newB 1 a0) (100 - a1) _ hA hI (by omega) (by omega)
    have r0 : 0 ≤ a0 * a1 / 100 := by omega
    have r1 : a0 * a1 / 100 ≤ 1099511627776 := by omega
    have r2 : 0 ≤ a0 * (100 - a1) / 100 := by omega
    have r3 : a0 * (100 - a1) / 100 ≤ 1099511627776 := by omega
    clear s1 s2 s3 s4
    generalize a0 * a1 / 100 = N at *
    generalize a0 * (100 - a1) / 100 = M at *
    rcases ps with ps | ps
    · have v5 : wrap64 (N + M) = a0 := by rw [wrap_in (by omega), ps]
      have v8 : wrap64 (a0 / 100 * a1 + a0 % 100 * a1 / 100 + M) = a0 := by rw [← pe]; exact v5
      clear ps r0 r1 r2 r3 m0 m1
      go_enter Try.func3, Try.ntmps3
      go_wp2_with (first | (go_at_call 9; refine (law_allowed_any _ _ _).mono ?_; rw [hf]; rintro e w' ⟨rfl, rfl⟩) | (go_at_call 11; refine (new_ok _ _ _ hf).mono ?_; rintro e w' ⟨rfl, rfl⟩) | (go_at_call 12; with_reducible refine h9.mono ?_; rintro e w' ⟨rfl, rfl⟩) | (go_at_call 12; with_reducible refine h8.mono ?_; rintro e w' ⟨rfl, rfl⟩) | (go_at_call 10; refine (known_any _).mono ?_; rintro e w' ⟨rfl, hb⟩))
      all_goals first | (exfalso; omega) | (go_ret; exact ⟨rfl, k1.trans (hb.mono k1.size)⟩)
    · have v5 : wrap64 (N + M) = a0 - 1 := by rw [wrap_in (by omega), ps]
      have v7 : ¬ (a0 - 1 = a0) := by omega
      have v8 : wrap64 (a0 / 100 * a1 + a0 % 100 * a1 / 100 + M) = a0 - 1 := by rw [← pe]; exact v5
      clear ps r0 r1 r2 r3 m0 m1
      go_enter Try.func3, Try.ntmps3
      go_wp2_with (first | (go_at_call 9; refine (law_allowed_any _ _ _).mono ?_; rw [hf]; rintro e w' ⟨rfl, rfl⟩) | (go_at_call 11; refine (new_ok _ _ _ hf).mono ?_; rintro e w' ⟨rfl, rfl⟩) | (go_at_call 12; with_reducible refine h9.mono ?_; rintro e w' ⟨rfl, rfl⟩) | (go_at_call 12; with_reducible refine h8.mono ?_; rintro e w' ⟨rfl, rfl⟩) | (go_at_call 10; refine (known_any _).mono ?_; rintro e w' ⟨rfl, hb⟩))
      all_goals first | (exfalso; omega) | (go_ret; exact ⟨rfl, k1.trans (hb.mono k1.size)⟩)
end Go.Proofs.Ytfoccffngdhlfaa
