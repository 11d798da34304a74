/-
  The walk of the law HashHolds (the theorem of stage 2): it returns true, and writes nothing that was there.
-/
import Derived.Test.YtbecffgnfbgdlaaW
namespace Go.Proofs.Ytbecffgnfbgdlaa
open Go.ChangeShapes Go.WideShapes Go.ChangeAt Go.RowKit
set_option linter.unusedVariables false

theorem foldI_append (h : Int) (a b : List UInt8) : foldI h (a ++ b) = foldI (foldI h a) b := by unfold foldI; rw [List.foldl_append]

set_option maxHeartbeats 1600000 in
theorem hashHolds_walk (a0 : Int) (a1 a2 : ByteArray) (w0 : (Lit.int .u64 a0).wf = true) (w1 : a1.size ≤ maxLen) (w2 : a2.size ≤ maxLen) (w : World) :
    Calls Try.prog 7 #[.int .u64 a0, .string a1, .string a2] w fun e w' => e = .returned (.bool true) ∧ Below w.heap.size w w' := by
  have hW : Word a0 := word_wf w0
  obtain ⟨h0, h1⟩ := word_wf w0
  clear w0
  by_cases hl1 : 300 < a1.size
  · go_enter Try.func7, Try.ntmps7
    go_wp2_with fail
    refine (known_any _).mono ?_
    rintro e w' ⟨rfl, hb⟩
    go_wp2_with fail
    go_ret
    exact ⟨rfl, hb⟩
  by_cases hl2 : 300 < a2.size
  · go_enter Try.func7, Try.ntmps7
    go_wp2_with fail
    refine (known_any _).mono ?_
    rintro e w' ⟨rfl, hb⟩
    go_wp2_with fail
    go_ret
    exact ⟨rfl, hb⟩
  go_enter Try.func7, Try.ntmps7
  go_wp2_with fail
  refine (new_any _ _ _).mono ?_
  rintro e w' ⟨rfl, rfl⟩
  go_wp2_with fail
  refine (sum_any a0 hW false (a1 ++ a2) (by simp [maxLen]; omega) _).mono ?_
  rintro e w' ⟨rfl, rfl⟩
  have hS : Word (sumI a0 false (a1 ++ a2).data.toList) := mixI_word _
  have HS : Hid (sumI a0 false (a1 ++ a2).data.toList = sumI (foldI a0 a1.data.toList) false a2.data.toList) := by
    unfold sumI Hid; simp [foldI_append]
  generalize sumI a0 false (a1 ++ a2).data.toList = S at *
  obtain ⟨s0, s1⟩ := hS
  have hd : S / 128 ≤ 144115188075855871 := by omega
  have hr : S % 128 ≤ 127 := by omega
  have hj : (128 * (S / 128) + S % 128 != S) = false := by
    rw [show 128 * (S / 128) + S % 128 = S from by omega]; simp
  go_wp2_with fail
  refine (tag_any S s0 s1 _).mono ?_
  rintro e w' ⟨rfl, rfl⟩
  go_wp2_with fail
  refine (part_any S s0 s1 _).mono ?_
  rintro e w' ⟨rfl, rfl⟩
  go_wp2_with fail
  refine (part_any S s0 s1 _).mono ?_
  rintro e w' ⟨rfl, rfl⟩
  go_wp2_with fail
  refine (tag_any S s0 s1 _).mono ?_
  rintro e w' ⟨rfl, rfl⟩
  go_wp2_with fail
  clear hd hr hj
  obtain ⟨W, hWW⟩ : ∃ W, ((w.alloc (Obj.cells #[Value.int IntKind.u64 a0, Value.bool false] 27)).alloc (Obj.cells #[Value.int IntKind.u64 a0, Value.bool false] 27)) = W := ⟨_, rfl⟩
  rw [hWW]
  have hbel : Below w.heap.size w W := by
    subst hWW
    repeat (first | exact Below.refl _ _ | refine Below.alloc ?_ (by simp <;> omega) _)
  clear hWW
  have hs1 : a1.size ≤ 9223372036854775807 := by omega
  go_loop [8, 9] (fun v i => ∃ k : Nat, k ≤ a1.size ∧ i = .int .i64 k ∧ v = .int .u64 (foldI a0 (a1.data.toList.take k))) (fun _ i => a1.size - (intOf i).toNat)
  case atStart => exact ⟨0, Nat.zero_le _, rfl, by simp [foldI]⟩
  case round =>
    obtain ⟨k, hk, rfl, rfl⟩ := hrel
    have hd := foldI_word a0 hW (a1.data.toList.take k)
    by_cases hlt : k < a1.size
    · have HF := Lib.hid (foldI_snoc a0 a1 k hlt)
      generalize foldI a0 (a1.data.toList.take k) = y at *
      obtain ⟨y0, y1⟩ := hd
      go_wp2_with fail
      go_round
      case rel => exact ⟨k + 1, by omega, by go_num, by rw [HF.out, wrap_byte]⟩
      case measure => simp [intOf]; omega
    · have HF := foldI_all a0 a1 k (by omega)
      rw [HF] at hd ⊢
      clear HF
      have hq1 : (mixI (foldI a0 a1.data.toList) == sumI a0 false a1.data.toList) = true := by simp [sumI]
      have hq2 : (sumI (foldI a0 a1.data.toList) false a2.data.toList == S) = true := by rw [HS.out]; simp
      generalize foldI a0 a1.data.toList = y at *
      have hd' := hd
      obtain ⟨y0, y1⟩ := hd
      go_wp2_with fail
      refine (mix_any y y0 y1 _).mono ?_
      rintro e w' ⟨rfl, rfl⟩
      go_wp2_with fail
      refine (new_any _ _ _).mono ?_
      rintro e w' ⟨rfl, rfl⟩
      go_wp2_with fail
      refine (sum_any a0 hW false a1 w1 _).mono ?_
      rintro e w' ⟨rfl, rfl⟩
      go_wp2_with fail
      refine (new_any _ _ _).mono ?_
      rintro e w' ⟨rfl, rfl⟩
      go_wp2_with fail
      refine (sum_any y hd' false a2 w2 _).mono ?_
      rintro e w' ⟨rfl, rfl⟩
      go_wp2_with fail
      have hz := hbel.size
      refine (known_from w.heap.size w _ (by repeat (first | exact hbel | refine Below.alloc ?_ (by first | omega | (simp; omega)) _)) (by simp <;> omega)).mono ?_
      rintro e w' ⟨rfl, hb⟩
      go_wp2_with fail
      go_ret
      exact ⟨rfl, hb⟩
end Go.Proofs.Ytbecffgnfbgdlaa
