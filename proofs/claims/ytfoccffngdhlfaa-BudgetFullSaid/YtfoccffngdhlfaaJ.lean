/-
  The walk of BudgetFull: a budget that gets as many entries as a segment may have, or a few less.
-/
import Derived.Test.YtfoccffngdhlfaaI
import Derived.Deep.Cut
namespace Go.Proofs.Ytfoccffngdhlfaa
open Go.ChangeShapes Go.WideShapes Go.ChangeAt Go.RowKit
set_option linter.unusedVariables false

/-- The budget behind some entries with the greatest cost. -/
def FL (k : Int) : Bud := ⟨1, 1, k, k * 1099511627776, 2, 1099511627776⟩
theorem fl_inv (k : Int) (h0 : 0 ≤ k) (h1 : k ≤ 2097152) : (FL k).Inv :=
  ⟨rfl, h0, h1, by show 0 ≤ k * 1099511627776; omega, by show k * 1099511627776 ≤ 2305843009213693952; omega, by show (0 : Int) ≤ 2; omega, by show (2 : Int) ≤ 2097152; omega, by show (0 : Int) ≤ 1099511627776; omega, by show (1099511627776 : Int) ≤ 2305843009213693952; omega⟩
theorem fl_step (k : Int) (h0 : 0 ≤ k) (h1 : k < 2097152) : addR (FL k) 0 1099511627776 = (0, FL (k + 1)) := by
  have hf : fairB 0 1099511627776 = true := rfl
  have hz : fitsB ((FL k).cnt 0 + 1) ((FL k).cost 0 + 1099511627776) = true := fitsB_iff.2 ⟨by show k + 1 ≤ 2097152; omega, by show k * 1099511627776 + 1099511627776 ≤ 2305843009213693952; omega⟩
  unfold addR
  rw [if_pos hf, if_pos hz]
  have e : (FL k).cost 0 + 1099511627776 = (k + 1) * 1099511627776 := by show k * 1099511627776 + 1099511627776 = _; omega
  rw [e]
  rfl
theorem add_res (p : Nat) (K : Bud) (g c r : Int) (w : World) (h : At w p K) (hI : K.Inv) (hr : (addR K g c).1 = r) :
    Calls Try.prog 13 #[.pointer (some ⟨p, 0, none⟩), .int .i64 g, .int .i64 c] w fun e w' => e = .returned (.int .i64 r) ∧ Keep p w w' ∧ At w' p (addR K g c).2 := by
  subst hr; exact add_any p K g c w h hI
theorem move_res (p : Nat) (K : Bud) (g c r : Int) (w : World) (h : At w p K) (hI : K.Inv) (hr : (moveR K g c).1 = r) :
    Calls Try.prog 14 #[.pointer (some ⟨p, 0, none⟩), .int .i64 g, .int .i64 c] w fun e w' => e = .returned (.int .i64 r) ∧ Keep p w w' := by
  subst hr
  refine (move_any p K g c w h hI).mono ?_
  rintro e w' ⟨h1, h2, _⟩; exact ⟨h1, h2⟩
theorem change_res (p : Nat) (K : Bud) (g a b r : Int) (w : World) (h : At w p K) (hI : K.Inv) (hr : (changeR K g a b).1 = r) :
    Calls Try.prog 15 #[.pointer (some ⟨p, 0, none⟩), .int .i64 g, .int .i64 a, .int .i64 b] w fun e w' => e = .returned (.int .i64 r) ∧ Keep p w w' := by
  subst hr
  refine (change_any p K g a b w h hI).mono ?_
  rintro e w' ⟨h1, h2, _⟩; exact ⟨h1, h2⟩

theorem add_two (K : Bud) : addR K 2 0 = (2, K) := rfl
theorem fl_add (k : Int) (h0 : 0 ≤ k) (h1 : k < 2097152) : (addR (FL k) 0 0).1 = 0 ∧ (addR (FL k) 0 0).2.Inv := by
  have hf : fairB 0 0 = true := rfl
  have hz : fitsB ((FL k).cnt 0 + 1) ((FL k).cost 0 + 0) = true := fitsB_iff.2 ⟨by show k + 1 ≤ 2097152; omega, by show k * 1099511627776 + 0 ≤ 2305843009213693952; omega⟩
  unfold addR
  rw [if_pos hf, if_pos hz]
  exact ⟨rfl, (fl_inv k h0 (by omega)).put0 ⟨by show 0 ≤ k + 1; omega, by show k + 1 ≤ 2097152; omega, by show 0 ≤ k * 1099511627776 + 0; omega, by show k * 1099511627776 + 0 ≤ 2305843009213693952; omega⟩⟩
theorem fl_add_full : (addR (FL 2097152) 0 0).1 = 7 ∧ (addR (FL 2097152) 0 0).2.Inv := ⟨by rfl, by
  rw [show (addR (FL 2097152) 0 0).2 = FL 2097152 from rfl]; exact fl_inv _ (by omega) (by omega)⟩
theorem fl_move (k : Int) (h0 : 0 ≤ k) (h1 : k < 2097152) : (moveR (FL k) 1 1099511627776).1 = 0 := by
  have hf : fairB 1 1099511627776 = true := rfl
  have hz : fitsB ((FL k).cnt (1 - 1) + 1) ((FL k).cost (1 - 1) + 1099511627776) = true := fitsB_iff.2 ⟨by show k + 1 ≤ 2097152; omega, by show k * 1099511627776 + 1099511627776 ≤ 2305843009213693952; omega⟩
  have hh : hasB ((FL k).cnt 1) ((FL k).cost 1) 1099511627776 = true := rfl
  unfold moveR
  rw [if_pos hf, if_pos hz, if_pos hh]
theorem fl_move_full : (moveR (FL 2097152) 1 1099511627776).1 = 7 := by rfl
theorem fl_change (k : Int) (h0 : 2 ≤ k) (h1 : k < 2097152) : (changeR (FL k) 0 0 1099511627776).1 = 0 := by
  have hf : (fairB 0 0 && fairB 0 1099511627776) = true := rfl
  have hz : fitsB ((FL k).cnt 0) ((FL k).cost 0 + (1099511627776 - 0)) = true := fitsB_iff.2 ⟨by show k ≤ 2097152; omega, by show k * 1099511627776 + (1099511627776 - 0) ≤ 2305843009213693952; omega⟩
  have hh : hasB ((FL k).cnt 0) ((FL k).cost 0) 0 = true := hasB_iff.2 (.inl ⟨by show 1 < k; omega, by show 0 ≤ k * 1099511627776; omega⟩)
  unfold changeR
  rw [if_pos hf, if_pos hz, if_pos hh]
theorem fl_change_full : (changeR (FL 2097152) 0 0 1099511627776).1 = 7 := by rfl

theorem fl_move_full' (k : Nat) (h : (k : Int) = 2097152) : (moveR (FL k) 1 1099511627776).1 = 7 := by rw [h]; exact fl_move_full
theorem fl_change_full' (k : Nat) (h : (k : Int) = 2097152) : (changeR (FL k) 0 0 1099511627776).1 = 7 := by rw [h]; exact fl_change_full
set_option maxRecDepth 100000 in
set_option maxHeartbeats 4000000 in
theorem budgetFull_walk (a0 a1 : Int) (w0 : (Lit.int .u8 a0).wf = true) (w1 : (Lit.int .u8 a1).wf = true) (w : World) :
    Calls Try.prog 4 #[.int .u8 a0, .int .u8 a1] w fun e w' => e = .returned (.bool true) ∧ Below w.heap.size w w' := by
  have l0 : 0 ≤ a0 := (bounds_u8 w0).1
  have l1 : 0 ≤ a1 := (bounds_u8 w1).1
  clear w0 w1
  by_cases h3 : 3 < a0
  · go_enter Try.func4, Try.ntmps4
    go_wp2_with (first | (go_at_call 10; refine (known_any _).mono ?_; rintro e w' ⟨rfl, hb⟩))
    go_ret
    exact ⟨rfl, hb⟩
  by_cases h2 : 2 < a1
  · go_enter Try.func4, Try.ntmps4
    go_wp2_with (first | (go_at_call 10; refine (known_any _).mono ?_; rintro e w' ⟨rfl, hb⟩))
    go_ret
    exact ⟨rfl, hb⟩
  have ok : okB 1 1 = true := rfl
  have hI0 : (newB 1 1).Inv := inv_new ok
  have r1 : addR (newB 1 1) 1 1099511627776 = (0, ⟨1, 1, 0, 0, 1, 1099511627776⟩) := by rfl
  have r2 : addR ⟨1, 1, 0, 0, 1, 1099511627776⟩ 1 0 = (0, FL 0) := by rfl
  have hI1 : (⟨1, 1, 0, 0, 1, 1099511627776⟩ : Bud).Inv := inv_of _ (by decide +kernel)
  have hA0 : At (w.alloc (.cells (newB 1 1).cells 56)) w.heap.size (newB 1 1) := At.new
  have k0 : Below w.heap.size w (w.alloc (.cells (newB 1 1).cells 56)) := (Below.refl _ _).alloc (Nat.le_refl _) _
  have e0 : wrap64 (2097152 - a0) = 2097152 - a0 := wrap_in (by omega)
  go_enter Try.func4, Try.ntmps4
  go_wp2_with (first | (go_at_call 11; refine (new_ok _ _ _ ok).mono ?_; rintro e w' ⟨rfl, rfl⟩) | (go_at_call 13; with_reducible refine (add_lit _ _ _ _ _ _ _ hA0 hI0 r1).mono ?_; rintro e w1 ⟨rfl, k1, hA1⟩; have b1 := k0.trans (k1.below (Nat.le_refl _) k0.size)) | (go_at_call 13; with_reducible refine (add_lit _ _ _ _ _ _ _ hA1 hI1 r2).mono ?_; rintro e w2 ⟨rfl, k2, hA2⟩; have b2 := b1.trans (k2.below (Nat.le_refl _) b1.size)))
  clear hA0 hA1 k0 k1 k2 b1
  go_loopw [7] (fun i wr => ∃ k : Nat, (k : Int) ≤ 2097152 - a0 ∧ i = .int .i64 k ∧ At wr w.heap.size (FL k) ∧ Below w.heap.size w wr) (fun i _ => 2097153 - (intOf i).toNat)
  case atStart => exact ⟨0, by omega, rfl, hA2, b2⟩
  case round =>
    obtain ⟨k, hk, rfl, hA, hbel⟩ := hrel
    by_cases hlt : (k : Int) < 2097152 - a0
    · have hr := fl_step k (by omega) (by omega)
      have hI := fl_inv k (by omega) (by omega)
      go_wp2_with (first | (go_at_call 13; refine (add_lit _ _ _ _ _ _ _ hA hI hr).mono ?_; rintro e w3 ⟨rfl, k3, hA3⟩))
      go_roundw
      case rel => exact ⟨k + 1, by omega, by go_num, hA3, hbel.trans (k3.below (Nat.le_refl _) hbel.size)⟩
      case measure => simp [intOf]; omega
    · have hI := fl_inv k (by omega) (by omega)
      have hkk : (k : Int) = 2097152 - a0 := by omega
      clear b2 hA2 ok hI0 r1 r2 hI1
      by_cases hz : a0 = 0
      · go_upto_region 14 with fail
        rcases (show a1 = 0 ∨ a1 = 1 ∨ a1 = 2 by omega) with rfl | rfl | rfl
        · have hk9 : (k : Int) = 2097152 := by omega
          have R := fl_add_full
          rw [← hk9] at R
          go_wp2_with (first | (go_at_call 13; with_reducible refine (add_res _ _ _ _ _ _ hA hI R.1).mono ?_; rintro e w3 ⟨rfl, k3, hA3⟩) | (go_at_call 13; refine (add_lit _ _ _ _ _ _ _ hA3 R.2 (add_two _)).mono ?_; rintro e w4 ⟨rfl, k4, hA4⟩) | (go_at_call 10; refine (known_any _).mono ?_; rintro e w5 ⟨rfl, hb⟩))
          go_ret
          have b3 := hbel.trans (k3.below (Nat.le_refl _) hbel.size)
          have b4 := b3.trans (k4.below (Nat.le_refl _) b3.size)
          exact ⟨rfl, b4.trans (hb.mono b4.size)⟩
        · have hk9 : (k : Int) = 2097152 := by omega
          have R := Lib.hid (fl_move_full' k hk9)
          go_wp2_with (first | (go_at_call 14; with_reducible refine (move_res _ _ _ _ _ _ hA hI R.out).mono ?_; rintro e w3 ⟨rfl, k3⟩) | (go_at_call 10; refine (known_any _).mono ?_; rintro e w5 ⟨rfl, hb⟩))
          go_ret
          have b3 := hbel.trans (k3.below (Nat.le_refl _) hbel.size)
          exact ⟨rfl, b3.trans (hb.mono b3.size)⟩
        · have hk9 : (k : Int) = 2097152 := by omega
          have R := Lib.hid (fl_change_full' k hk9)
          go_wp2_with (first | (go_at_call 15; with_reducible refine (change_res _ _ _ _ _ _ _ hA hI R.out).mono ?_; rintro e w3 ⟨rfl, k3⟩) | (go_at_call 10; refine (known_any _).mono ?_; rintro e w5 ⟨rfl, hb⟩))
          go_ret
          have b3 := hbel.trans (k3.below (Nat.le_refl _) hbel.size)
          exact ⟨rfl, b3.trans (hb.mono b3.size)⟩
      · go_upto_region 14 with fail
        rcases (show a1 = 0 ∨ a1 = 1 ∨ a1 = 2 by omega) with rfl | rfl | rfl
        · have R := fl_add k (by omega) (by omega)
          go_wp2_with (first | (go_at_call 13; with_reducible refine (add_res _ _ _ _ _ _ hA hI R.1).mono ?_; rintro e w3 ⟨rfl, k3, hA3⟩) | (go_at_call 13; refine (add_lit _ _ _ _ _ _ _ hA3 R.2 (add_two _)).mono ?_; rintro e w4 ⟨rfl, k4, hA4⟩) | (go_at_call 10; refine (known_any _).mono ?_; rintro e w5 ⟨rfl, hb⟩))
          go_ret
          have b3 := hbel.trans (k3.below (Nat.le_refl _) hbel.size)
          have b4 := b3.trans (k4.below (Nat.le_refl _) b3.size)
          exact ⟨rfl, b4.trans (hb.mono b4.size)⟩
        · have R := Lib.hid (fl_move k (by omega) (by omega))
          go_wp2_with (first | (go_at_call 14; with_reducible refine (move_res _ _ _ _ _ _ hA hI R.out).mono ?_; rintro e w3 ⟨rfl, k3⟩) | (go_at_call 10; refine (known_any _).mono ?_; rintro e w5 ⟨rfl, hb⟩))
          go_ret
          have b3 := hbel.trans (k3.below (Nat.le_refl _) hbel.size)
          exact ⟨rfl, b3.trans (hb.mono b3.size)⟩
        · have R := Lib.hid (fl_change k (by omega) (by omega))
          go_wp2_with (first | (go_at_call 15; with_reducible refine (change_res _ _ _ _ _ _ _ hA hI R.out).mono ?_; rintro e w3 ⟨rfl, k3⟩) | (go_at_call 10; refine (known_any _).mono ?_; rintro e w5 ⟨rfl, hb⟩))
          go_ret
          have b3 := hbel.trans (k3.below (Nat.le_refl _) hbel.size)
          exact ⟨rfl, b3.trans (hb.mono b3.size)⟩
end Go.Proofs.Ytfoccffngdhlfaa
