/-
  Contracts of the methods of budget.Budget that read, of New, Set and Copy.
-/
import Derived.Test.YtfoccffngdhlfaaB
namespace Go.Proofs.Ytfoccffngdhlfaa
open Go.ChangeShapes Go.WideShapes Go.ChangeAt Go.RowKit
set_option linter.unusedVariables false

theorem sees_drew {K : Bud} {p : Nat} {w0 w : World} (h : Below w0.heap.size w0 w ∧ w.cell? ⟨p, 0, none⟩ = some (.int .i64 K.mc) ∧ w.cell? ⟨p, 1, none⟩ = some (.int .i64 K.mb) ∧ w.cell? ⟨p, 2, none⟩ = some (.int .i64 K.c0) ∧ w.cell? ⟨p, 3, none⟩ = some (.int .i64 K.b0) ∧ w.cell? ⟨p, 4, none⟩ = some (.int .i64 K.c1) ∧ w.cell? ⟨p, 5, none⟩ = some (.int .i64 K.b1)) : Below w0.heap.size w0 w.drew ∧ w.drew.cell? ⟨p, 0, none⟩ = some (.int .i64 K.mc) ∧ w.drew.cell? ⟨p, 1, none⟩ = some (.int .i64 K.mb) ∧ w.drew.cell? ⟨p, 2, none⟩ = some (.int .i64 K.c0) ∧ w.drew.cell? ⟨p, 3, none⟩ = some (.int .i64 K.b0) ∧ w.drew.cell? ⟨p, 4, none⟩ = some (.int .i64 K.c1) ∧ w.drew.cell? ⟨p, 5, none⟩ = some (.int .i64 K.b1) :=
  ⟨Below.drew h.1, h.2⟩
theorem sees_at {K : Bud} {p : Nat} {w : World} (h : At w p K) : Below w.heap.size w w ∧ w.cell? ⟨p, 0, none⟩ = some (.int .i64 K.mc) ∧ w.cell? ⟨p, 1, none⟩ = some (.int .i64 K.mb) ∧ w.cell? ⟨p, 2, none⟩ = some (.int .i64 K.c0) ∧ w.cell? ⟨p, 3, none⟩ = some (.int .i64 K.b0) ∧ w.cell? ⟨p, 4, none⟩ = some (.int .i64 K.c1) ∧ w.cell? ⟨p, 5, none⟩ = some (.int .i64 K.b1) :=
  ⟨Below.refl _ _, h.cell 0, h.cell 1, h.cell 2, h.cell 3, h.cell 4, h.cell 5⟩
theorem sees_start {K : Bud} {p : Nat} {w : World} (h : At w p K) : Below w.heap.size w w.drew ∧ w.drew.cell? ⟨p, 0, none⟩ = some (.int .i64 K.mc) ∧ w.drew.cell? ⟨p, 1, none⟩ = some (.int .i64 K.mb) ∧ w.drew.cell? ⟨p, 2, none⟩ = some (.int .i64 K.c0) ∧ w.drew.cell? ⟨p, 3, none⟩ = some (.int .i64 K.b0) ∧ w.drew.cell? ⟨p, 4, none⟩ = some (.int .i64 K.c1) ∧ w.drew.cell? ⟨p, 5, none⟩ = some (.int .i64 K.b1) :=
  sees_drew ⟨Below.refl _ _, h.cell 0, h.cell 1, h.cell 2, h.cell 3, h.cell 4, h.cell 5⟩
theorem sees_below {K : Bud} {p : Nat} {w0 w w' : World} (hp : p < w0.heap.size) (h : Below w0.heap.size w0 w ∧ w.cell? ⟨p, 0, none⟩ = some (.int .i64 K.mc) ∧ w.cell? ⟨p, 1, none⟩ = some (.int .i64 K.mb) ∧ w.cell? ⟨p, 2, none⟩ = some (.int .i64 K.c0) ∧ w.cell? ⟨p, 3, none⟩ = some (.int .i64 K.b0) ∧ w.cell? ⟨p, 4, none⟩ = some (.int .i64 K.c1) ∧ w.cell? ⟨p, 5, none⟩ = some (.int .i64 K.b1)) (hb : Below w.heap.size w w') : Below w0.heap.size w0 w' ∧ w'.cell? ⟨p, 0, none⟩ = some (.int .i64 K.mc) ∧ w'.cell? ⟨p, 1, none⟩ = some (.int .i64 K.mb) ∧ w'.cell? ⟨p, 2, none⟩ = some (.int .i64 K.c0) ∧ w'.cell? ⟨p, 3, none⟩ = some (.int .i64 K.b0) ∧ w'.cell? ⟨p, 4, none⟩ = some (.int .i64 K.c1) ∧ w'.cell? ⟨p, 5, none⟩ = some (.int .i64 K.b1) := by
  obtain ⟨h, f0, f1, f2, f3, f4, f5⟩ := h
  have lt : p < w.heap.size := Nat.lt_of_lt_of_le hp h.size
  exact ⟨h.trans (hb.mono h.size), (hb.cell (p := ⟨p, 0, none⟩) lt).trans f0, (hb.cell (p := ⟨p, 1, none⟩) lt).trans f1, (hb.cell (p := ⟨p, 2, none⟩) lt).trans f2, (hb.cell (p := ⟨p, 3, none⟩) lt).trans f3, (hb.cell (p := ⟨p, 4, none⟩) lt).trans f4, (hb.cell (p := ⟨p, 5, none⟩) lt).trans f5⟩
theorem sees_alloc {K : Bud} {p : Nat} {w0 w : World} (hp : p < w0.heap.size) (h : Below w0.heap.size w0 w ∧ w.cell? ⟨p, 0, none⟩ = some (.int .i64 K.mc) ∧ w.cell? ⟨p, 1, none⟩ = some (.int .i64 K.mb) ∧ w.cell? ⟨p, 2, none⟩ = some (.int .i64 K.c0) ∧ w.cell? ⟨p, 3, none⟩ = some (.int .i64 K.b0) ∧ w.cell? ⟨p, 4, none⟩ = some (.int .i64 K.c1) ∧ w.cell? ⟨p, 5, none⟩ = some (.int .i64 K.b1)) (o : Obj) : Below w0.heap.size w0 (w.alloc o) ∧ (w.alloc o).cell? ⟨p, 0, none⟩ = some (.int .i64 K.mc) ∧ (w.alloc o).cell? ⟨p, 1, none⟩ = some (.int .i64 K.mb) ∧ (w.alloc o).cell? ⟨p, 2, none⟩ = some (.int .i64 K.c0) ∧ (w.alloc o).cell? ⟨p, 3, none⟩ = some (.int .i64 K.b0) ∧ (w.alloc o).cell? ⟨p, 4, none⟩ = some (.int .i64 K.c1) ∧ (w.alloc o).cell? ⟨p, 5, none⟩ = some (.int .i64 K.b1) :=
  sees_below hp h ((Below.refl _ _).alloc (Nat.le_refl _) o)

theorem plus_ex (a b c d x y : Int) (h : wrap64 (a + c) = x) (k : wrap64 (b + d) = y) (w : World) :
    Calls Try.prog 32 #[.agg #[.int .i64 a, .int .i64 b], .agg #[.int .i64 c, .int .i64 d]] w fun e w' => e = .returned (.agg #[.int .i64 x, .int .i64 y]) ∧
      w' = ((w.alloc (.cells #[.int .i64 a, .int .i64 b] 53)).alloc (.cells #[.int .i64 c, .int .i64 d] 53)).alloc (.cells #[.int .i64 x, .int .i64 y] 53) := by
  subst h; subst k
  exact plus_any a b c d w

set_option maxHeartbeats 800000 in
theorem total_any (p : Nat) (K : Bud) (w : World) (h : At w p K) (hI : K.Inv) :
    Calls Try.prog 17 #[.pointer (some ⟨p, 0, none⟩)] w fun e w' => e = .returned (.tuple #[.int .i64 (K.c0 + K.c1), .int .i64 (K.b0 + K.b1)]) ∧ Below w.heap.size w w' := by
  have hn := hI.nz
  have lt := h.lt
  have q0 := hI.c0; have q1 := hI.C0; have q2 := hI.b0; have q3 := hI.B0; have q4 := hI.c1; have q5 := hI.C1; have q6 := hI.b1; have q7 := hI.B1
  have e1 : wrap64 (K.c0 + K.c1) = K.c0 + K.c1 := wrap_in (by omega)
  have e2 : wrap64 (K.b0 + K.b1) = K.b0 + K.b1 := wrap_in (by omega)
  go_enter Try.func17, Try.ntmps17
  go_wp2_with (first | (go_at_call 30; refine (none_any p K _ h).mono ?_; rw [hn]; rintro e w' ⟨rfl, rfl⟩))
  have f0 : w.cell? ⟨p, 0, none⟩ = some (.int .i64 K.mc) := h.cell 0
  have f1 : w.cell? ⟨p, 1, none⟩ = some (.int .i64 K.mb) := h.cell 1
  have f2 : w.cell? ⟨p, 2, none⟩ = some (.int .i64 K.c0) := h.cell 2
  have f3 : w.cell? ⟨p, 3, none⟩ = some (.int .i64 K.b0) := h.cell 3
  have f4 : w.cell? ⟨p, 4, none⟩ = some (.int .i64 K.c1) := h.cell 4
  have f5 : w.cell? ⟨p, 5, none⟩ = some (.int .i64 K.b1) := h.cell 5
  have f0 : w.cell? ⟨p, 0, none⟩ = some (.int .i64 K.mc) := h.cell 0
  have f1 : w.cell? ⟨p, 1, none⟩ = some (.int .i64 K.mb) := h.cell 1
  have f2 : w.cell? ⟨p, 2, none⟩ = some (.int .i64 K.c0) := h.cell 2
  have f3 : w.cell? ⟨p, 3, none⟩ = some (.int .i64 K.b0) := h.cell 3
  have f4 : w.cell? ⟨p, 4, none⟩ = some (.int .i64 K.c1) := h.cell 4
  have f5 : w.cell? ⟨p, 5, none⟩ = some (.int .i64 K.b1) := h.cell 5
  go_region_held3 (fun w' => Below w.heap.size w w' ∧ w'.cell? ⟨p, 0, none⟩ = some (.int .i64 K.mc) ∧ w'.cell? ⟨p, 1, none⟩ = some (.int .i64 K.mb) ∧ w'.cell? ⟨p, 2, none⟩ = some (.int .i64 K.c0) ∧ w'.cell? ⟨p, 3, none⟩ = some (.int .i64 K.b0) ∧ w'.cell? ⟨p, 4, none⟩ = some (.int .i64 K.c1) ∧ w'.cell? ⟨p, 5, none⟩ = some (.int .i64 K.b1)) (repeat (first | exact sees_at h | exact sees_start h | assumption | refine sees_alloc lt ?_ _ | refine sees_drew ?_)) (first | (go_at_call 32; ((with_reducible refine (plus_ex K.c0 K.b0 K.c1 K.b1 _ _ e1 e2 _).mono ?_); rintro e w' ⟨rfl, rfl⟩)))
  all_goals go_wp2_with fail
  all_goals go_quiet (fail)
  all_goals go_wp2
  all_goals go_ret2
  all_goals exact ⟨rfl, by (repeat (first | exact Below.refl _ _ | (refine Below.alloc ?_ (by first | omega | (simp <;> omega)) _) | (refine Below.drew ?_) | (refine below_drewN ?_ _)))⟩
theorem used_arg (p : Nat) (K : Bud) (g : Int) (w : World) (h : At w p K) (hI : K.Inv) (hf : fairB g 0 = false) :
    Calls Try.prog 21 #[.pointer (some ⟨p, 0, none⟩), .int .i64 g] w fun e w' => e = .returned (.tuple #[.int .i64 0, .int .i64 0]) ∧ Below w.heap.size w w' := by
  have hn := hI.nz
  have ha := argNe hf
  go_enter Try.func21, Try.ntmps21
  go_wp2_with (first | (go_at_call 31; refine (check_any p K g 0 _ h hn).mono ?_; rw [ha]; rintro e w' ⟨rfl, rfl⟩))
  go_ret2
  exact ⟨rfl, by (repeat (first | exact Below.refl _ _ | (refine Below.alloc ?_ (by first | omega | (simp <;> omega)) _) | (refine Below.drew ?_) | (refine below_drewN ?_ _)))⟩
theorem used_any (p : Nat) (K : Bud) (g n b : Int) (w : World) (h : At w p K) (hI : K.Inv) (hg : K.Seg g n b) :
    Calls Try.prog 21 #[.pointer (some ⟨p, 0, none⟩), .int .i64 g] w fun e w' => e = .returned (.tuple #[.int .i64 n, .int .i64 b]) ∧ Below w.heap.size w w' := by
  have hn := hI.nz
  have hf : fairB g 0 = true := fairB_iff.2 ⟨by rcases hg with ⟨h, _⟩ | ⟨h, _⟩ <;> omega, by omega, by omega⟩
  have ha := argOk hf
  have f0 : w.cell? ⟨p, 0, none⟩ = some (.int .i64 K.mc) := h.cell 0
  have f1 : w.cell? ⟨p, 1, none⟩ = some (.int .i64 K.mb) := h.cell 1
  have f2 : w.cell? ⟨p, 2, none⟩ = some (.int .i64 K.c0) := h.cell 2
  have f3 : w.cell? ⟨p, 3, none⟩ = some (.int .i64 K.b0) := h.cell 3
  have f4 : w.cell? ⟨p, 4, none⟩ = some (.int .i64 K.c1) := h.cell 4
  have f5 : w.cell? ⟨p, 5, none⟩ = some (.int .i64 K.b1) := h.cell 5
  rcases hg with ⟨rfl, rfl, rfl⟩ | ⟨rfl, rfl, rfl⟩
  all_goals go_enter Try.func21, Try.ntmps21
  all_goals go_wp2_with (first | (go_at_call 31; refine (check_any p K _ 0 _ h hn).mono ?_; rw [ha]; rintro e w' ⟨rfl, rfl⟩))
  all_goals go_quiet (fail)
  all_goals go_wp2
  all_goals go_ret2
  all_goals exact ⟨rfl, below_drewN (Below.refl _ _) _⟩
theorem limits_any (p : Nat) (K : Bud) (w : World) (h : At w p K) (hI : K.Inv) :
    Calls Try.prog 25 #[.pointer (some ⟨p, 0, none⟩)] w fun e w' => e = .returned (.tuple #[.int .i64 K.mc, .int .i64 K.mb]) ∧ Below w.heap.size w w' := by
  have hn := hI.nz
  have f0 : w.cell? ⟨p, 0, none⟩ = some (.int .i64 K.mc) := h.cell 0
  have f1 : w.cell? ⟨p, 1, none⟩ = some (.int .i64 K.mb) := h.cell 1
  have f2 : w.cell? ⟨p, 2, none⟩ = some (.int .i64 K.c0) := h.cell 2
  have f3 : w.cell? ⟨p, 3, none⟩ = some (.int .i64 K.b0) := h.cell 3
  have f4 : w.cell? ⟨p, 4, none⟩ = some (.int .i64 K.c1) := h.cell 4
  have f5 : w.cell? ⟨p, 5, none⟩ = some (.int .i64 K.b1) := h.cell 5
  go_enter Try.func25, Try.ntmps25
  go_wp2_with (first | (go_at_call 30; refine (none_any p K _ h).mono ?_; rw [hn]; rintro e w' ⟨rfl, rfl⟩))
  go_quiet (fail)
  go_wp2
  go_ret2
  exact ⟨rfl, below_drewN (Below.refl _ _) _⟩
theorem max_eq (x : Int) : (if x ≤ 0 then 0 else x) = max 0 x := by by_cases h : x ≤ 0 <;> simp [h] <;> omega
set_option maxHeartbeats 1600000 in
theorem over_any (p : Nat) (K : Bud) (w : World) (h : At w p K) (hI : K.Inv) :
    Calls Try.prog 36 #[.pointer (some ⟨p, 0, none⟩)] w fun e w' => e = .returned (.tuple #[.int .i64 (max 0 (K.c0 + K.c1 - K.mc)), .int .i64 (max 0 (K.b0 + K.b1 - K.mb))]) ∧ Below w.heap.size w w' := by
  have hn := hI.nz
  have lt := h.lt
  have q0 := hI.c0; have q1 := hI.C0; have q2 := hI.b0; have q3 := hI.B0; have q4 := hI.c1; have q5 := hI.C1; have q6 := hI.b1; have q7 := hI.B1
  obtain ⟨o0, o1, o2, o3⟩ := okB_iff.1 hI.ok
  have e1 : wrap64 (K.c0 + K.c1) = K.c0 + K.c1 := wrap_in (by omega)
  have e2 : wrap64 (K.b0 + K.b1) = K.b0 + K.b1 := wrap_in (by omega)
  have ez1 : IntKind.i64.wrap (-K.mc) = -K.mc := by rw [IntWalk.i64_left]; exact wrap_in (by omega)
  have ez2 : IntKind.i64.wrap (-K.mb) = -K.mb := by rw [IntWalk.i64_left]; exact wrap_in (by omega)
  have e3 : wrap64 (K.c0 + K.c1 + -K.mc) = K.c0 + K.c1 - K.mc := by rw [wrap_in (by omega)]; omega
  have e4 : wrap64 (K.b0 + K.b1 + -K.mb) = K.b0 + K.b1 - K.mb := by rw [wrap_in (by omega)]; omega
  go_enter Try.func36, Try.ntmps36
  go_wp2_with (first | (go_at_call 30; refine (none_any p K _ h).mono ?_; rw [hn]; rintro e w' ⟨rfl, rfl⟩))
  have f0 : w.cell? ⟨p, 0, none⟩ = some (.int .i64 K.mc) := h.cell 0
  have f1 : w.cell? ⟨p, 1, none⟩ = some (.int .i64 K.mb) := h.cell 1
  have f2 : w.cell? ⟨p, 2, none⟩ = some (.int .i64 K.c0) := h.cell 2
  have f3 : w.cell? ⟨p, 3, none⟩ = some (.int .i64 K.b0) := h.cell 3
  have f4 : w.cell? ⟨p, 4, none⟩ = some (.int .i64 K.c1) := h.cell 4
  have f5 : w.cell? ⟨p, 5, none⟩ = some (.int .i64 K.b1) := h.cell 5
  go_region_held3 (fun w' => Below w.heap.size w w' ∧ w'.cell? ⟨p, 0, none⟩ = some (.int .i64 K.mc) ∧ w'.cell? ⟨p, 1, none⟩ = some (.int .i64 K.mb) ∧ w'.cell? ⟨p, 2, none⟩ = some (.int .i64 K.c0) ∧ w'.cell? ⟨p, 3, none⟩ = some (.int .i64 K.b0) ∧ w'.cell? ⟨p, 4, none⟩ = some (.int .i64 K.c1) ∧ w'.cell? ⟨p, 5, none⟩ = some (.int .i64 K.b1)) (repeat (first | exact sees_at h | exact sees_start h | assumption | refine sees_alloc lt ?_ _ | refine sees_drew ?_)) (first | (go_at_call 32; ((with_reducible refine (plus_ex K.c0 K.b0 K.c1 K.b1 _ _ e1 e2 _).mono ?_); rintro e w' ⟨rfl, rfl⟩)) | (go_at_call 32; ((with_reducible refine (plus_ex (K.c0 + K.c1) (K.b0 + K.b1) (-K.mc) (-K.mb) _ _ e3 e4 _).mono ?_); rintro e w' ⟨rfl, rfl⟩)))
  all_goals clear hn lt q0 q1 q2 q3 q4 q5 q6 q7 o0 o1 o2 o3 e1 e2 ez1 ez2 e3 e4
  all_goals go_wp2_with fail
  all_goals go_region
  all_goals go_wp2
  all_goals go_ret2
  all_goals refine ⟨ret_two ?_ ?_, by (repeat (first | exact Below.refl _ _ | (refine Below.alloc ?_ (by first | omega | (simp <;> omega)) _) | (refine Below.drew ?_) | (refine below_drewN ?_ _)))⟩
  all_goals (first | omega | (split <;> omega))
end Go.Proofs.Ytfoccffngdhlfaa
