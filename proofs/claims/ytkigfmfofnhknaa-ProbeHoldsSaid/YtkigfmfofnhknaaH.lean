/-
  The walks of the laws ProbeAt, ProbeAll and ProbeIndex: each returns true, and writes nothing that was there.
-/
import Derived.Test.YtkigfmfofnhknaaG
namespace Go.Proofs.Ytkigfmfofnhknaa
open Go.ChangeShapes Go.WideShapes Go.ChangeAt Go.RowKit Go.Shelf
set_option linter.unusedVariables false

theorem known_from (w v : World) (hb : Below w.heap.size w v) : Calls Try.prog 12 #[] v fun e w' => e = .returned (.bool true) ∧ Below w.heap.size w w' :=
  (known_any v).mono fun e w' ⟨he, h⟩ => ⟨he, hb.trans (h.mono hb.size)⟩

theorem self2 (a b : Int) : decide (a = a ∧ b = b) = true := by simp

theorem probeAt_walk (a0 a1 a2 : Int) (w0 : (Lit.int .u64 a0).wf = true) (w1 : (Lit.int .i64 a1).wf = true) (w2 : (Lit.int .i64 a2).wf = true) (w : World) :
    Calls Try.prog 3 #[.int .u64 a0, .int .i64 a1, .int .i64 a2] w fun e w' => e = .returned (.bool true) ∧ Below w.heap.size w w' := by
  have hp := bounds_u64 w0
  have hg := bounds_i64 w1
  clear w0 w1 w2
  go_enter Try.func3, Try.ntmps3
  go_wp2_with fail
  refine (refAt_any a0 a1 a2 (by omega) (by omega) _).mono ?_
  rintro e W ⟨rfl, hb⟩
  go_wp2_with fail
  refine (valid_any a1 (by omega) (by omega) _).mono ?_
  rintro e w' ⟨rfl, rfl⟩
  go_wp2_with fail
  refine (refValid_any a1 _).mono ?_
  rintro e w' ⟨rfl, rfl⟩
  go_wp2_with fail
  refine (lawAt_lit a0 a1 a2 _ _ true (self2 _ _) (by omega) (by omega) (by omega) (by omega) _).mono ?_
  rintro e w' ⟨rfl, rfl⟩
  go_wp2_with fail
  refine (known_from w _ hb).mono ?_
  rintro e w' ⟨rfl, hb'⟩
  go_wp2_with fail
  go_ret
  exact ⟨rfl, hb'⟩

theorem probeIndex_walk (a0 a1 a2 : Int) (w0 : (Lit.int .u64 a0).wf = true) (w1 : (Lit.int .i64 a1).wf = true) (w2 : (Lit.int .i64 a2).wf = true) (w : World) :
    Calls Try.prog 5 #[.int .u64 a0, .int .i64 a1, .int .i64 a2] w fun e w' => e = .returned (.bool true) ∧ Below w.heap.size w w' := by
  have hp := bounds_u64 w0
  have hg := bounds_i64 w1
  clear w0 w1 w2
  by_cases h4 : 4096 < a1
  · by_cases hv : validB a1 = true
    · go_enter Try.func5, Try.ntmps5
      go_wp2_with (first | (go_at_call 10; refine (refValid_any a1 _).mono ?_; rintro e w' ⟨rfl, rfl⟩) | (go_at_call 12; refine (known_any _).mono ?_; rintro e w' ⟨rfl, hb'⟩))
      go_ret
      exact ⟨rfl, hb'⟩
    · have hv' : validB a1 = false := by simpa using hv
      clear hv
      go_enter Try.func5, Try.ntmps5
      go_wp2_with fail
      refine (refValid_any a1 _).mono ?_
      rintro e w' ⟨rfl, rfl⟩
      go_wp2_with fail
      refine (refIndex_any a0 a1 a2 (by omega) (by omega) _).mono ?_
      rintro e W ⟨rfl, hb⟩
      go_wp2_with fail
      refine (lawIndex_lit a0 a1 a2 _ _ true (self2 _ _) (by omega) (by omega) (by omega) (by omega) _).mono ?_
      rintro e W2 ⟨rfl, hb2⟩
      go_wp2_with fail
      refine (known_from w _ (hb.trans (hb2.mono hb.size))).mono ?_
      rintro e w' ⟨rfl, hb'⟩
      go_wp2_with fail
      go_ret
      exact ⟨rfl, hb'⟩
  · go_enter Try.func5, Try.ntmps5
    go_wp2_with fail
    refine (refIndex_any a0 a1 a2 (by omega) (by omega) _).mono ?_
    rintro e W ⟨rfl, hb⟩
    go_wp2_with fail
    refine (lawIndex_lit a0 a1 a2 _ _ true (self2 _ _) (by omega) (by omega) (by omega) (by omega) _).mono ?_
    rintro e W2 ⟨rfl, hb2⟩
    go_wp2_with fail
    refine (known_from w _ (hb.trans (hb2.mono hb.size))).mono ?_
    rintro e w' ⟨rfl, hb'⟩
    go_wp2_with fail
    go_ret
    exact ⟨rfl, hb'⟩

theorem seqOf_length (p g : Int) : (seqOf p g).length ≤ 9223372036854775807 := by
  have := upto_many_length p g
  rw [seqOf_many] at this; omega

set_option maxHeartbeats 1000000 in
theorem probeAll_walk (a0 a1 : Int) (w0 : (Lit.int .u64 a0).wf = true) (w1 : (Lit.int .i64 a1).wf = true) (w : World) :
    Calls Try.prog 4 #[.int .u64 a0, .int .i64 a1] w fun e w' => e = .returned (.bool true) ∧ Below w.heap.size w w' := by
  have hp := bounds_u64 w0
  have hg := bounds_i64 w1
  clear w0 w1
  have hsl := seqOf_length a0 a1
  by_cases hv : validB a1 = true
  · have hd : Hid (errOf a1 0 = 0) := Lib.hid (by first | exact errOf_0 hv | exact errOf_bad hv)
    by_cases h4 : 4096 < a1
    · clear hd hsl
      go_enter Try.func4, Try.ntmps4
      go_wp2_with (first | (go_at_call 10; refine (refValid_any a1 _).mono ?_; rintro e w' ⟨rfl, rfl⟩) | (go_at_call 12; refine (known_any _).mono ?_; rintro e w' ⟨rfl, hb'⟩))
      go_ret
      exact ⟨rfl, hb'⟩
    · go_enter Try.func4, Try.ntmps4
      go_wp2_with (first | (go_at_call 10; refine (refValid_any a1 _).mono ?_; rintro e w' ⟨rfl, rfl⟩))
      refine (refAll_any a0 a1 (by omega) (by omega) _).mono ?_
      rintro e W ⟨v, rfl, hown, hb⟩
      go_wp2_with fail
      refine (all_lit a0 a1 (by omega) (by omega) (by omega) (by omega) v (seqOf a0 a1) 0 true (by rw [hd.out]; simp) hsl _ (Ints.of_own hown)).mono ?_
      rintro e W2 ⟨rfl, hb2⟩
      go_wp2_with fail
      refine (known_from w _ (hb.trans (hb2.mono hb.size))).mono ?_
      rintro e w' ⟨rfl, hb'⟩
      go_wp2_with fail
      go_ret
      exact ⟨rfl, hb'⟩
  · have hv' : validB a1 = false := by simpa using hv
    have hd : Hid (errOf a1 0 = 2) := Lib.hid (by first | exact errOf_0 hv | exact errOf_bad hv)
    clear hv
    by_cases h4 : 4096 < a1
    all_goals
      go_enter Try.func4, Try.ntmps4
      go_wp2_with (first | (go_at_call 10; refine (refValid_any a1 _).mono ?_; rintro e w' ⟨rfl, rfl⟩))
      refine (refAll_any a0 a1 (by omega) (by omega) _).mono ?_
      rintro e W ⟨v, rfl, hown, hb⟩
      go_wp2_with fail
      refine (all_lit a0 a1 (by omega) (by omega) (by omega) (by omega) v (seqOf a0 a1) 2 true (by rw [hd.out]; simp) hsl _ (Ints.of_own hown)).mono ?_
      rintro e W2 ⟨rfl, hb2⟩
      go_wp2_with fail
      refine (known_from w _ (hb.trans (hb2.mono hb.size))).mono ?_
      rintro e w' ⟨rfl, hb'⟩
      go_wp2_with fail
      go_ret
      exact ⟨rfl, hb'⟩
end Go.Proofs.Ytkigfmfofnhknaa
