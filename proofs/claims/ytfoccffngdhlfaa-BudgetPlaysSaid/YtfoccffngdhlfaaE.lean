/-
  Contracts of budget.New and of Budget's Set, Part, Copy; of Add, Remove, Move and Change, each as one law; and of cubbyholelaw17's total, over and used.
-/
import Derived.Test.YtfoccffngdhlfaaC
import Derived.Test.YtfoccffngdhlfaaD
namespace Go.Proofs.Ytfoccffngdhlfaa
open Go.ChangeShapes Go.WideShapes Go.ChangeAt Go.RowKit
set_option linter.unusedVariables false

def Bud.set (K : Bud) (c b : Int) : Bud := { K with mc := c, mb := b }
def addR (K : Bud) (g c : Int) : Int × Bud := if fairB g c = true then (if fitsB (K.cnt g + 1) (K.cost g + c) = true then (0, K.put g (K.cnt g + 1) (K.cost g + c)) else (7, K)) else (2, K)
def removeR (K : Bud) (g c : Int) : Int × Bud := if fairB g c = true then (if hasB (K.cnt g) (K.cost g) c = true then (0, K.put g (K.cnt g - 1) (K.cost g - c)) else (9, K)) else (2, K)
def moveR (K : Bud) (g c : Int) : Int × Bud :=
  if fairB g c = true then (if fitsB (K.cnt (1 - g) + 1) (K.cost (1 - g) + c) = true then (if hasB (K.cnt g) (K.cost g) c = true then
    (0, (K.put g (K.cnt g - 1) (K.cost g - c)).put (1 - g) (K.cnt (1 - g) + 1) (K.cost (1 - g) + c)) else (9, K)) else (7, K)) else (2, K)
def changeR (K : Bud) (g a b : Int) : Int × Bud :=
  if (fairB g a && fairB g b) = true then (if fitsB (K.cnt g) (K.cost g + (b - a)) = true then (if hasB (K.cnt g) (K.cost g) a = true then (0, K.put g (K.cnt g) (K.cost g + (b - a))) else (9, K)) else (7, K)) else (2, K)
def setR (K : Bud) (c b : Int) : Int × Bud := if okB c b = true then (0, K.set c b) else (2, K)
def newB (c b : Int) : Bud := ⟨c, b, 0, 0, 0, 0⟩

theorem fair_seg {g c : Int} (h : fairB g c = true) : g = 0 ∨ g = 1 := (fairB_iff.1 h).1
theorem Bud.Inv.put0 {K : Bud} (h : K.Inv) {n b : Int} (k : 0 ≤ n ∧ n ≤ 2097152 ∧ 0 ≤ b ∧ b ≤ 2305843009213693952) : (K.put 0 n b).Inv :=
  ⟨h.ok, k.1, k.2.1, k.2.2.1, k.2.2.2, h.c1, h.C1, h.b1, h.B1⟩
theorem Bud.Inv.put1 {K : Bud} (h : K.Inv) {n b : Int} (k : 0 ≤ n ∧ n ≤ 2097152 ∧ 0 ≤ b ∧ b ≤ 2305843009213693952) : (K.put 1 n b).Inv :=
  ⟨h.ok, h.c0, h.C0, h.b0, h.B0, k.1, k.2.1, k.2.2.1, k.2.2.2⟩

theorem add_any (p : Nat) (K : Bud) (g c : Int) (w : World) (h : At w p K) (hI : K.Inv) :
    Calls Try.prog 13 #[.pointer (some ⟨p, 0, none⟩), .int .i64 g, .int .i64 c] w fun e w' => e = .returned (.int .i64 (addR K g c).1) ∧ Keep p w w' ∧ At w' p (addR K g c).2 := by
  by_cases hf : fairB g c = true
  · have hg := fair_seg hf
    by_cases hz : fitsB (K.cnt g + 1) (K.cost g + c) = true
    · rw [show addR K g c = _ from by unfold addR; rw [if_pos hf, if_pos hz]]
      rcases hg with rfl | rfl
      · exact add_ok0 p K c w h hI hf hz
      · exact add_ok1 p K c w h hI hf hz
    · rw [show addR K g c = _ from by unfold addR; rw [if_pos hf, if_neg hz]]
      have hz : fitsB (K.cnt g + 1) (K.cost g + c) = false := by simpa using hz
      rcases hg with rfl | rfl
      · refine (add_full0 p K c w h hI hf hz).mono ?_
        rintro e w' ⟨rfl, hb⟩
        exact ⟨rfl, Keep.of_below hb, h.below hb⟩
      · refine (add_full1 p K c w h hI hf hz).mono ?_
        rintro e w' ⟨rfl, hb⟩
        exact ⟨rfl, Keep.of_below hb, h.below hb⟩
  · rw [show addR K g c = _ from by unfold addR; rw [if_neg hf]]
    refine (add_arg p K g c w h hI (by simpa using hf)).mono ?_
    rintro e w' ⟨rfl, rfl⟩
    exact ⟨rfl, Keep.refl _ _, h⟩
theorem remove_any (p : Nat) (K : Bud) (g c : Int) (w : World) (h : At w p K) (hI : K.Inv) :
    Calls Try.prog 18 #[.pointer (some ⟨p, 0, none⟩), .int .i64 g, .int .i64 c] w fun e w' => e = .returned (.int .i64 (removeR K g c).1) ∧ Keep p w w' ∧ At w' p (removeR K g c).2 := by
  by_cases hf : fairB g c = true
  · have hg := fair_seg hf
    by_cases hz : hasB (K.cnt g) (K.cost g) c = true
    · rw [show removeR K g c = _ from by unfold removeR; rw [if_pos hf, if_pos hz]]
      rcases hg with rfl | rfl
      · exact remove_ok0 p K c w h hI hf hz
      · exact remove_ok1 p K c w h hI hf hz
    · rw [show removeR K g c = _ from by unfold removeR; rw [if_pos hf, if_neg hz]]
      refine (remove_no p K g _ _ c w h hI hf (K.seg hg) (by simpa using hz)).mono ?_
      rintro e w' ⟨rfl, hb⟩
      exact ⟨rfl, Keep.of_below hb, h.below hb⟩
  · rw [show removeR K g c = _ from by unfold removeR; rw [if_neg hf]]
    refine (remove_arg p K g c w h hI (by simpa using hf)).mono ?_
    rintro e w' ⟨rfl, rfl⟩
    exact ⟨rfl, Keep.refl _ _, h⟩

theorem set_any (p : Nat) (K : Bud) (c b : Int) (w : World) (h : At w p K) (hI : K.Inv) :
    Calls Try.prog 20 #[.pointer (some ⟨p, 0, none⟩), .int .i64 c, .int .i64 b] w fun e w' => e = .returned (.int .i64 (setR K c b).1) ∧ Keep p w w' ∧ At w' p (setR K c b).2 := by
  have hn := hI.nz
  have f0 : w.cell? ⟨p, 0, none⟩ = some (.int .i64 K.mc) := h.cell 0
  have f1 : w.cell? ⟨p, 1, none⟩ = some (.int .i64 K.mb) := h.cell 1
  have g0 : w.frozen? ⟨p, 0, none⟩ = false := h.frozen 0
  have g1 : w.frozen? ⟨p, 1, none⟩ = false := h.frozen 1
  cases hf : okB c b
  · rw [show setR K c b = (2, K) from by unfold setR; rw [hf]; rfl]
    go_enter Try.func20, Try.ntmps20
    go_wp2_with (first | (go_at_call 30; refine (none_any p K _ h).mono ?_; rw [hn]; rintro e w' ⟨rfl, rfl⟩) | (go_at_call 29; refine (allowed_any c b _).mono ?_; rw [hf]; rintro e w' ⟨rfl, rfl⟩))
    go_ret
    exact ⟨rfl, Keep.refl _ _, h⟩
  · rw [show setR K c b = (0, K.set c b) from by unfold setR; rw [hf]; rfl]
    go_enter Try.func20, Try.ntmps20
    go_wp2_with (first | (go_at_call 30; refine (none_any p K _ h).mono ?_; rw [hn]; rintro e w' ⟨rfl, rfl⟩) | (go_at_call 29; refine (allowed_any c b _).mono ?_; rw [hf]; rintro e w' ⟨rfl, rfl⟩))
    go_ret
    exact ⟨rfl, by (repeat (first | assumption | exact Keep.refl _ _ | (refine Keep.alloc ?_ _) | (refine Keep.setCell ?_ _ _) | (refine Keep.drew ?_) | (refine Keep.drewN ?_ _))), by unfold At at *; exact heap_set (heap_set h _) _⟩

theorem new_no (c b : Int) (w : World) (hf : okB c b = false) :
    Calls Try.prog 11 #[.int .i64 c, .int .i64 b] w fun e w' => e = .returned (.tuple #[.pointer none, .int .i64 2]) ∧ w = w' := by
  go_enter Try.func11, Try.ntmps11
  go_wp2_with (first | (go_at_call 29; refine (allowed_any c b _).mono ?_; rw [hf]; rintro e w' ⟨rfl, rfl⟩))
  go_ret2
  exact ⟨rfl, rfl⟩
theorem new_ok (c b : Int) (w : World) (hf : okB c b = true) :
    Calls Try.prog 11 #[.int .i64 c, .int .i64 b] w fun e w' => e = .returned (.tuple #[.pointer (some ⟨w.heap.size, 0, none⟩), .int .i64 0]) ∧ w' = w.alloc (.cells (newB c b).cells 56) := by
  go_enter Try.func11, Try.ntmps11
  go_wp2_with (first | (go_at_call 29; refine (allowed_any c b _).mono ?_; rw [hf]; rintro e w' ⟨rfl, rfl⟩))
  go_ret2
  exact ⟨rfl, rfl⟩

theorem part_no (p : Nat) (K : Bud) (x : Int) (w : World) (h : At w p K) (hI : K.Inv) (hx : x < 0 ∨ 100 < x) :
    Calls Try.prog 12 #[.pointer (some ⟨p, 0, none⟩), .int .i64 x] w fun e w' => e = .returned (.tuple #[.int .i64 0, .int .i64 2]) ∧ w = w' := by
  have hn := hI.nz
  rcases hx with hx | hx
  all_goals go_enter Try.func12, Try.ntmps12
  all_goals go_wp2_with (first | (go_at_call 30; refine (none_any p K _ h).mono ?_; rw [hn]; rintro e w' ⟨rfl, rfl⟩))
  all_goals go_ret2
  all_goals exact ⟨rfl, rfl⟩
theorem part_ok (p : Nat) (K : Bud) (x : Int) (w : World) (h : At w p K) (hI : K.Inv) (hx : 0 ≤ x) (hy : x ≤ 100) :
    Calls Try.prog 12 #[.pointer (some ⟨p, 0, none⟩), .int .i64 x] w fun e w' => e = .returned (.tuple #[.int .i64 (K.mb * x / 100), .int .i64 0]) ∧ w = w' := by
  have hn := hI.nz
  obtain ⟨_, _, o2, o3⟩ := okB_iff.1 hI.ok
  have hm0 : 0 ≤ K.mb * x := Int.mul_nonneg (by omega) hx
  have hm1 : K.mb * x ≤ 1099511627776 * 100 := Int.mul_le_mul o3 hy hx (by omega)
  have e1 : wrap64 (K.mb * x) = K.mb * x := wrap_in (by omega)
  have f1 : w.cell? ⟨p, 1, none⟩ = some (.int .i64 K.mb) := h.cell 1
  go_enter Try.func12, Try.ntmps12
  go_wp2_with (first | (go_at_call 30; refine (none_any p K _ h).mono ?_; rw [hn]; rintro e w' ⟨rfl, rfl⟩))
  go_ret2
  refine ⟨ret_two ?_ rfl, rfl⟩
  first | rfl | (simp; done)

theorem copy_any (p : Nat) (K : Bud) (w : World) (h : At w p K) (hI : K.Inv) :
    Calls Try.prog 28 #[.pointer (some ⟨p, 0, none⟩)] w fun e w' => e = .returned (.pointer (some ⟨w.heap.size, 0, none⟩)) ∧ w' = w.alloc (.cells K.cells 56) := by
  have hn := hI.nz
  have f0 : w.cell? ⟨p, 0, none⟩ = some (.int .i64 K.mc) := h.cell 0
  have f1 : w.cell? ⟨p, 1, none⟩ = some (.int .i64 K.mb) := h.cell 1
  have f2 : w.cell? ⟨p, 2, none⟩ = some (.int .i64 K.c0) := h.cell 2
  have f3 : w.cell? ⟨p, 3, none⟩ = some (.int .i64 K.b0) := h.cell 3
  have f4 : w.cell? ⟨p, 4, none⟩ = some (.int .i64 K.c1) := h.cell 4
  have f5 : w.cell? ⟨p, 5, none⟩ = some (.int .i64 K.b1) := h.cell 5
  go_enter Try.func28, Try.ntmps28
  go_wp2_with (first | (go_at_call 30; refine (none_any p K _ h).mono ?_; rw [hn]; rintro e w' ⟨rfl, rfl⟩))
  go_ret
  exact ⟨rfl, rfl⟩

theorem move_ok0 (p : Nat) (K : Bud) (c : Int) (w : World) (h : At w p K) (hI : K.Inv) (hf : fairB 0 c = true) (hz : fitsB (K.c1 + 1) (K.b1 + c) = true) (hh : hasB K.c0 K.b0 c = true) :
    Calls Try.prog 14 #[.pointer (some ⟨p, 0, none⟩), .int .i64 0, .int .i64 c] w fun e w' => e = .returned (.int .i64 0) ∧ Keep p w w' ∧ At w' p ((K.put 0 (K.c0 - 1) (K.b0 - c)).put 1 (K.c1 + 1) (K.b1 + c)) := by
  have hn := hI.nz
  have ha := argOk hf
  obtain ⟨_, k0, k1⟩ := fairB_iff.1 hf
  have hf1 : fairB 1 c = true := fairB_iff.2 ⟨by omega, k0, k1⟩
  have n0 := hI.c1; have n1 := hI.C1; have b0 := hI.b1; have b1 := hI.B1
  have m0 := hI.c0; have m1 := hI.C0; have l0 := hI.b0; have l1 := hI.B0
  have hq := hasB_iff.1 hh
  have hI1 : (K.put 0 (K.c0 - 1) (K.b0 - c)).Inv := hI.put0 (by omega)
  have hS : K.Seg 0 K.c0 K.b0 := K.seg (by omega)
  have f0 : w.cell? ⟨p, 4, none⟩ = some (.int .i64 K.c1) := h.cell 4
  have f1 : w.cell? ⟨p, 5, none⟩ = some (.int .i64 K.b1) := h.cell 5
  have e1 : wrap64 (K.c1 + 1) = K.c1 + 1 := wrap_in (by omega)
  have e2 : wrap64 (K.b1 + c) = K.b1 + c := wrap_in (by omega)
  clear hq m0 m1 l0 l1
  go_enter Try.func14, Try.ntmps14
  go_wp2_with (first | (go_at_call 31; refine (check_any p K 0 c _ h hn).mono ?_; rw [ha]; rintro e w' ⟨rfl, rfl⟩) | (go_at_call 32; refine (plus_bel _ _ _ _ _ _ e1 e2 _).mono ?_; rintro e w1 ⟨rfl, hb1⟩) | (go_at_call 33; refine (fits_bel _ _ _).mono ?_; rw [hz]; rintro e w2 ⟨rfl, hb2⟩; have h2 := (h.below hb1).below hb2) | (go_at_call 34; refine (has_any p K 0 _ _ c _ h2 hS).mono ?_; rw [hh]; rintro e w3 ⟨rfl, hb3⟩; have h3 := h2.below hb3) | (go_at_call 18; refine (remove_ok0 p K c _ h3 hI hf hh).mono ?_; rintro e w4 ⟨rfl, hk4, h4⟩) | (go_at_call 13; refine (add_ok1 p _ c _ h4 hI1 hf1 hz).mono ?_; rintro e w5 ⟨rfl, hk5, h5⟩))
  go_ret
  exact ⟨rfl, ((((Keep.of_below hb1).trans (Keep.of_below hb2)).trans (Keep.of_below hb3)).trans hk4).trans hk5, h5⟩
theorem move_full0 (p : Nat) (K : Bud) (c : Int) (w : World) (h : At w p K) (hI : K.Inv) (hf : fairB 0 c = true) (hz : fitsB (K.c1 + 1) (K.b1 + c) = false) :
    Calls Try.prog 14 #[.pointer (some ⟨p, 0, none⟩), .int .i64 0, .int .i64 c] w fun e w' => e = .returned (.int .i64 7) ∧ Below w.heap.size w w' := by
  have hn := hI.nz
  have ha := argOk hf
  obtain ⟨_, k0, k1⟩ := fairB_iff.1 hf
  have n0 := hI.c1; have n1 := hI.C1; have b0 := hI.b1; have b1 := hI.B1
  have f0 : w.cell? ⟨p, 4, none⟩ = some (.int .i64 K.c1) := h.cell 4
  have f1 : w.cell? ⟨p, 5, none⟩ = some (.int .i64 K.b1) := h.cell 5
  have e1 : wrap64 (K.c1 + 1) = K.c1 + 1 := wrap_in (by omega)
  have e2 : wrap64 (K.b1 + c) = K.b1 + c := wrap_in (by omega)
  go_enter Try.func14, Try.ntmps14
  go_wp2_with (first | (go_at_call 31; refine (check_any p K 0 c _ h hn).mono ?_; rw [ha]; rintro e w' ⟨rfl, rfl⟩) | (go_at_call 32; refine (plus_bel _ _ _ _ _ _ e1 e2 _).mono ?_; rintro e w1 ⟨rfl, hb1⟩) | (go_at_call 33; refine (fits_bel _ _ _).mono ?_; rw [hz]; rintro e w2 ⟨rfl, hb2⟩))
  go_ret
  exact ⟨rfl, hb1.trans (hb2.mono hb1.size)⟩
theorem move_no0 (p : Nat) (K : Bud) (c : Int) (w : World) (h : At w p K) (hI : K.Inv) (hf : fairB 0 c = true) (hz : fitsB (K.c1 + 1) (K.b1 + c) = true) (hh : hasB K.c0 K.b0 c = false) :
    Calls Try.prog 14 #[.pointer (some ⟨p, 0, none⟩), .int .i64 0, .int .i64 c] w fun e w' => e = .returned (.int .i64 9) ∧ Below w.heap.size w w' := by
  have hn := hI.nz
  have ha := argOk hf
  obtain ⟨_, k0, k1⟩ := fairB_iff.1 hf
  have n0 := hI.c1; have n1 := hI.C1; have b0 := hI.b1; have b1 := hI.B1
  have hS : K.Seg 0 K.c0 K.b0 := K.seg (by omega)
  have f0 : w.cell? ⟨p, 4, none⟩ = some (.int .i64 K.c1) := h.cell 4
  have f1 : w.cell? ⟨p, 5, none⟩ = some (.int .i64 K.b1) := h.cell 5
  have e1 : wrap64 (K.c1 + 1) = K.c1 + 1 := wrap_in (by omega)
  have e2 : wrap64 (K.b1 + c) = K.b1 + c := wrap_in (by omega)
  go_enter Try.func14, Try.ntmps14
  go_wp2_with (first | (go_at_call 31; refine (check_any p K 0 c _ h hn).mono ?_; rw [ha]; rintro e w' ⟨rfl, rfl⟩) | (go_at_call 32; refine (plus_bel _ _ _ _ _ _ e1 e2 _).mono ?_; rintro e w1 ⟨rfl, hb1⟩) | (go_at_call 33; refine (fits_bel _ _ _).mono ?_; rw [hz]; rintro e w2 ⟨rfl, hb2⟩; have h2 := (h.below hb1).below hb2) | (go_at_call 34; refine (has_any p K 0 _ _ c _ h2 hS).mono ?_; rw [hh]; rintro e w3 ⟨rfl, hb3⟩))
  go_ret
  exact ⟨rfl, (hb1.trans (hb2.mono hb1.size)).trans (hb3.mono (hb1.trans (hb2.mono hb1.size)).size)⟩

theorem move_ok1 (p : Nat) (K : Bud) (c : Int) (w : World) (h : At w p K) (hI : K.Inv) (hf : fairB 1 c = true) (hz : fitsB (K.c0 + 1) (K.b0 + c) = true) (hh : hasB K.c1 K.b1 c = true) :
    Calls Try.prog 14 #[.pointer (some ⟨p, 0, none⟩), .int .i64 1, .int .i64 c] w fun e w' => e = .returned (.int .i64 0) ∧ Keep p w w' ∧ At w' p ((K.put 1 (K.c1 - 1) (K.b1 - c)).put 0 (K.c0 + 1) (K.b0 + c)) := by
  have hn := hI.nz
  have ha := argOk hf
  obtain ⟨_, k0, k1⟩ := fairB_iff.1 hf
  have hf1 : fairB 0 c = true := fairB_iff.2 ⟨by omega, k0, k1⟩
  have n0 := hI.c0; have n1 := hI.C0; have b0 := hI.b0; have b1 := hI.B0
  have m0 := hI.c1; have m1 := hI.C1; have l0 := hI.b1; have l1 := hI.B1
  have hq := hasB_iff.1 hh
  have hI1 : (K.put 1 (K.c1 - 1) (K.b1 - c)).Inv := hI.put1 (by omega)
  have hS : K.Seg 1 K.c1 K.b1 := K.seg (by omega)
  have f0 : w.cell? ⟨p, 2, none⟩ = some (.int .i64 K.c0) := h.cell 2
  have f1 : w.cell? ⟨p, 3, none⟩ = some (.int .i64 K.b0) := h.cell 3
  have e1 : wrap64 (K.c0 + 1) = K.c0 + 1 := wrap_in (by omega)
  have e2 : wrap64 (K.b0 + c) = K.b0 + c := wrap_in (by omega)
  clear hq m0 m1 l0 l1
  go_enter Try.func14, Try.ntmps14
  go_wp2_with (first | (go_at_call 31; refine (check_any p K 1 c _ h hn).mono ?_; rw [ha]; rintro e w' ⟨rfl, rfl⟩) | (go_at_call 32; refine (plus_bel _ _ _ _ _ _ e1 e2 _).mono ?_; rintro e w1 ⟨rfl, hb1⟩) | (go_at_call 33; refine (fits_bel _ _ _).mono ?_; rw [hz]; rintro e w2 ⟨rfl, hb2⟩; have h2 := (h.below hb1).below hb2) | (go_at_call 34; refine (has_any p K 1 _ _ c _ h2 hS).mono ?_; rw [hh]; rintro e w3 ⟨rfl, hb3⟩; have h3 := h2.below hb3) | (go_at_call 18; refine (remove_ok1 p K c _ h3 hI hf hh).mono ?_; rintro e w4 ⟨rfl, hk4, h4⟩) | (go_at_call 13; refine (add_ok0 p _ c _ h4 hI1 hf1 hz).mono ?_; rintro e w5 ⟨rfl, hk5, h5⟩))
  go_ret
  exact ⟨rfl, ((((Keep.of_below hb1).trans (Keep.of_below hb2)).trans (Keep.of_below hb3)).trans hk4).trans hk5, h5⟩
theorem move_full1 (p : Nat) (K : Bud) (c : Int) (w : World) (h : At w p K) (hI : K.Inv) (hf : fairB 1 c = true) (hz : fitsB (K.c0 + 1) (K.b0 + c) = false) :
    Calls Try.prog 14 #[.pointer (some ⟨p, 0, none⟩), .int .i64 1, .int .i64 c] w fun e w' => e = .returned (.int .i64 7) ∧ Below w.heap.size w w' := by
  have hn := hI.nz
  have ha := argOk hf
  obtain ⟨_, k0, k1⟩ := fairB_iff.1 hf
  have n0 := hI.c0; have n1 := hI.C0; have b0 := hI.b0; have b1 := hI.B0
  have f0 : w.cell? ⟨p, 2, none⟩ = some (.int .i64 K.c0) := h.cell 2
  have f1 : w.cell? ⟨p, 3, none⟩ = some (.int .i64 K.b0) := h.cell 3
  have e1 : wrap64 (K.c0 + 1) = K.c0 + 1 := wrap_in (by omega)
  have e2 : wrap64 (K.b0 + c) = K.b0 + c := wrap_in (by omega)
  go_enter Try.func14, Try.ntmps14
  go_wp2_with (first | (go_at_call 31; refine (check_any p K 1 c _ h hn).mono ?_; rw [ha]; rintro e w' ⟨rfl, rfl⟩) | (go_at_call 32; refine (plus_bel _ _ _ _ _ _ e1 e2 _).mono ?_; rintro e w1 ⟨rfl, hb1⟩) | (go_at_call 33; refine (fits_bel _ _ _).mono ?_; rw [hz]; rintro e w2 ⟨rfl, hb2⟩))
  go_ret
  exact ⟨rfl, hb1.trans (hb2.mono hb1.size)⟩
theorem move_no1 (p : Nat) (K : Bud) (c : Int) (w : World) (h : At w p K) (hI : K.Inv) (hf : fairB 1 c = true) (hz : fitsB (K.c0 + 1) (K.b0 + c) = true) (hh : hasB K.c1 K.b1 c = false) :
    Calls Try.prog 14 #[.pointer (some ⟨p, 0, none⟩), .int .i64 1, .int .i64 c] w fun e w' => e = .returned (.int .i64 9) ∧ Below w.heap.size w w' := by
  have hn := hI.nz
  have ha := argOk hf
  obtain ⟨_, k0, k1⟩ := fairB_iff.1 hf
  have n0 := hI.c0; have n1 := hI.C0; have b0 := hI.b0; have b1 := hI.B0
  have hS : K.Seg 1 K.c1 K.b1 := K.seg (by omega)
  have f0 : w.cell? ⟨p, 2, none⟩ = some (.int .i64 K.c0) := h.cell 2
  have f1 : w.cell? ⟨p, 3, none⟩ = some (.int .i64 K.b0) := h.cell 3
  have e1 : wrap64 (K.c0 + 1) = K.c0 + 1 := wrap_in (by omega)
  have e2 : wrap64 (K.b0 + c) = K.b0 + c := wrap_in (by omega)
  go_enter Try.func14, Try.ntmps14
  go_wp2_with (first | (go_at_call 31; refine (check_any p K 1 c _ h hn).mono ?_; rw [ha]; rintro e w' ⟨rfl, rfl⟩) | (go_at_call 32; refine (plus_bel _ _ _ _ _ _ e1 e2 _).mono ?_; rintro e w1 ⟨rfl, hb1⟩) | (go_at_call 33; refine (fits_bel _ _ _).mono ?_; rw [hz]; rintro e w2 ⟨rfl, hb2⟩; have h2 := (h.below hb1).below hb2) | (go_at_call 34; refine (has_any p K 1 _ _ c _ h2 hS).mono ?_; rw [hh]; rintro e w3 ⟨rfl, hb3⟩))
  go_ret
  exact ⟨rfl, (hb1.trans (hb2.mono hb1.size)).trans (hb3.mono (hb1.trans (hb2.mono hb1.size)).size)⟩

end Go.Proofs.Ytfoccffngdhlfaa
