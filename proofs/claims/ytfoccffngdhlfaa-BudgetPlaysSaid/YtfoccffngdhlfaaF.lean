/-
  Contracts of budget.Budget's Move and Change, each as one law; of cubbyholelaw17's total, over, used and is.
-/
import Derived.Test.YtfoccffngdhlfaaE
namespace Go.Proofs.Ytfoccffngdhlfaa
open Go.ChangeShapes Go.WideShapes Go.ChangeAt Go.RowKit
set_option linter.unusedVariables false

theorem move_any (p : Nat) (K : Bud) (g c : Int) (w : World) (h : At w p K) (hI : K.Inv) :
    Calls Try.prog 14 #[.pointer (some ⟨p, 0, none⟩), .int .i64 g, .int .i64 c] w fun e w' => e = .returned (.int .i64 (moveR K g c).1) ∧ Keep p w w' ∧ At w' p (moveR K g c).2 := by
  by_cases hf : fairB g c = true
  · have hg := fair_seg hf
    by_cases hz : fitsB (K.cnt (1 - g) + 1) (K.cost (1 - g) + c) = true
    · by_cases hh : hasB (K.cnt g) (K.cost g) c = true
      · rw [show moveR K g c = _ from by unfold moveR; rw [if_pos hf, if_pos hz, if_pos hh]]
        rcases hg with rfl | rfl
        · exact move_ok0 p K c w h hI hf hz hh
        · exact move_ok1 p K c w h hI hf hz hh
      · rw [show moveR K g c = _ from by unfold moveR; rw [if_pos hf, if_pos hz, if_neg hh]]
        have hh : hasB (K.cnt g) (K.cost g) c = false := by simpa using hh
        rcases hg with rfl | rfl
        · refine (move_no0 p K c w h hI hf hz hh).mono ?_
          rintro e w' ⟨rfl, hb⟩
          exact ⟨rfl, Keep.of_below hb, h.below hb⟩
        · refine (move_no1 p K c w h hI hf hz hh).mono ?_
          rintro e w' ⟨rfl, hb⟩
          exact ⟨rfl, Keep.of_below hb, h.below hb⟩
    · rw [show moveR K g c = _ from by unfold moveR; rw [if_pos hf, if_neg hz]]
      have hz : fitsB (K.cnt (1 - g) + 1) (K.cost (1 - g) + c) = false := by simpa using hz
      rcases hg with rfl | rfl
      · refine (move_full0 p K c w h hI hf hz).mono ?_
        rintro e w' ⟨rfl, hb⟩
        exact ⟨rfl, Keep.of_below hb, h.below hb⟩
      · refine (move_full1 p K c w h hI hf hz).mono ?_
        rintro e w' ⟨rfl, hb⟩
        exact ⟨rfl, Keep.of_below hb, h.below hb⟩
  · rw [show moveR K g c = _ from by unfold moveR; rw [if_neg hf]]
    have hn := hI.nz
    have ha := argNe (show fairB g c = false by simpa using hf)
    go_enter Try.func14, Try.ntmps14
    go_wp2_with (first | (go_at_call 31; with_reducible refine (check_any p K g c _ h hn).mono ?_; rw [ha]; rintro e w' ⟨rfl, rfl⟩))
    go_ret
    exact ⟨rfl, Keep.refl _ _, h⟩

theorem change_arg (p : Nat) (K : Bud) (g a b : Int) (w : World) (h : At w p K) (hI : K.Inv) (hf : (fairB g a && fairB g b) = false) :
    Calls Try.prog 15 #[.pointer (some ⟨p, 0, none⟩), .int .i64 g, .int .i64 a, .int .i64 b] w fun e w' => e = .returned (.int .i64 2) ∧ w = w' := by
  have hn := hI.nz
  cases ha : fairB g a <;> cases hb : fairB g b
  · have ea := argNe ha
    have eb := argNe hb
    clear ha hb hf
    go_enter Try.func15, Try.ntmps15
    go_wp2_with (first | (go_at_call 31; with_reducible refine (check_any p K g a _ h hn).mono ?_; rw [ea]; rintro e w' ⟨rfl, rfl⟩) | (go_at_call 31; with_reducible refine (check_any p K g b _ h hn).mono ?_; rw [eb]; rintro e w' ⟨rfl, rfl⟩))
    all_goals go_ret
    all_goals exact ⟨rfl, rfl⟩
  · have ea := argNe ha
    have eb := argOk hb
    clear ha hb hf
    go_enter Try.func15, Try.ntmps15
    go_wp2_with (first | (go_at_call 31; with_reducible refine (check_any p K g a _ h hn).mono ?_; rw [ea]; rintro e w' ⟨rfl, rfl⟩) | (go_at_call 31; with_reducible refine (check_any p K g b _ h hn).mono ?_; rw [eb]; rintro e w' ⟨rfl, rfl⟩))
    all_goals go_ret
    all_goals exact ⟨rfl, rfl⟩
  · have ea := argOk ha
    have eb := argNe hb
    clear ha hb hf
    go_enter Try.func15, Try.ntmps15
    go_wp2_with (first | (go_at_call 31; with_reducible refine (check_any p K g a _ h hn).mono ?_; rw [ea]; rintro e w' ⟨rfl, rfl⟩) | (go_at_call 31; with_reducible refine (check_any p K g b _ h hn).mono ?_; rw [eb]; rintro e w' ⟨rfl, rfl⟩))
    all_goals go_ret
    all_goals exact ⟨rfl, rfl⟩
  · rw [ha, hb] at hf; cases hf

theorem change_full0 (p : Nat) (K : Bud) (a b : Int) (w : World) (h : At w p K) (hI : K.Inv) (ha : fairB 0 a = true) (hb : fairB 0 b = true) (hz : fitsB K.c0 (K.b0 + (b - a)) = false) :
    Calls Try.prog 15 #[.pointer (some ⟨p, 0, none⟩), .int .i64 0, .int .i64 a, .int .i64 b] w fun e w' => e = .returned (.int .i64 7) ∧ Below w.heap.size w w' := by
  have hn := hI.nz
  have ea := argOk ha
  have eb := argOk hb
  obtain ⟨_, k0, k1⟩ := fairB_iff.1 ha
  obtain ⟨_, k2, k3⟩ := fairB_iff.1 hb
  have n0 := hI.c0; have n1 := hI.C0; have b0 := hI.b0; have b1 := hI.B0
  have hS : K.Seg 0 K.c0 K.b0 := K.seg (by omega)
  have f2 : w.cell? ⟨p, 2, none⟩ = some (.int .i64 K.c0) := h.cell 2
  have f3 : w.cell? ⟨p, 3, none⟩ = some (.int .i64 K.b0) := h.cell 3
  have e0 : wrap64 (b - a) = b - a := wrap_in (by omega)
  have e1 : wrap64 (K.c0 + 0) = K.c0 := by rw [wrap_in (by omega)]; omega
  have e2 : wrap64 (K.b0 + (b - a)) = K.b0 + (b - a) := wrap_in (by omega)
  clear n0 n1 b0 b1 k0 k1 k2 k3
  go_enter Try.func15, Try.ntmps15
  go_wp2_with (first | (go_at_call 31; with_reducible refine (check_any p K 0 a _ h hn).mono ?_; rw [ea]; rintro e w' ⟨rfl, rfl⟩) | (go_at_call 31; with_reducible refine (check_any p K 0 b _ h hn).mono ?_; rw [eb]; rintro e w' ⟨rfl, rfl⟩) | (go_at_call 32; with_reducible refine (plus_bel K.c0 K.b0 0 (b - a) _ _ e1 e2 _).mono ?_; rintro e w1 ⟨rfl, hb1⟩) | (go_at_call 33; refine (fits_bel _ _ _).mono ?_; rw [hz]; rintro e w2 ⟨rfl, hb2⟩; have hN : w2.heap[w1.heap.size]? = some (.cells #[.int .i64 K.c0, .int .i64 (K.b0 + (b - a))] 53 (0, 0)) := heap_below (heap_new rfl) hb2; have h2 : At w2 p K := heap_below (heap_alloc (heap_below h hb1) _) hb2; have hk2 : Below w.heap.size w w2 := Below.trans (Below.alloc hb1 hb1.size _) (hb2.mono (Nat.le_trans hb1.size (by simp)))))
  go_ret
  exact ⟨rfl, hk2⟩
theorem change_no0 (p : Nat) (K : Bud) (a b : Int) (w : World) (h : At w p K) (hI : K.Inv) (ha : fairB 0 a = true) (hb : fairB 0 b = true) (hz : fitsB K.c0 (K.b0 + (b - a)) = true) (hh : hasB K.c0 K.b0 a = false) :
    Calls Try.prog 15 #[.pointer (some ⟨p, 0, none⟩), .int .i64 0, .int .i64 a, .int .i64 b] w fun e w' => e = .returned (.int .i64 9) ∧ Below w.heap.size w w' := by
  have hn := hI.nz
  have ea := argOk ha
  have eb := argOk hb
  obtain ⟨_, k0, k1⟩ := fairB_iff.1 ha
  obtain ⟨_, k2, k3⟩ := fairB_iff.1 hb
  have n0 := hI.c0; have n1 := hI.C0; have b0 := hI.b0; have b1 := hI.B0
  have hS : K.Seg 0 K.c0 K.b0 := K.seg (by omega)
  have f2 : w.cell? ⟨p, 2, none⟩ = some (.int .i64 K.c0) := h.cell 2
  have f3 : w.cell? ⟨p, 3, none⟩ = some (.int .i64 K.b0) := h.cell 3
  have e0 : wrap64 (b - a) = b - a := wrap_in (by omega)
  have e1 : wrap64 (K.c0 + 0) = K.c0 := by rw [wrap_in (by omega)]; omega
  have e2 : wrap64 (K.b0 + (b - a)) = K.b0 + (b - a) := wrap_in (by omega)
  clear n0 n1 b0 b1 k0 k1 k2 k3
  go_enter Try.func15, Try.ntmps15
  go_wp2_with (first | (go_at_call 31; with_reducible refine (check_any p K 0 a _ h hn).mono ?_; rw [ea]; rintro e w' ⟨rfl, rfl⟩) | (go_at_call 31; with_reducible refine (check_any p K 0 b _ h hn).mono ?_; rw [eb]; rintro e w' ⟨rfl, rfl⟩) | (go_at_call 32; with_reducible refine (plus_bel K.c0 K.b0 0 (b - a) _ _ e1 e2 _).mono ?_; rintro e w1 ⟨rfl, hb1⟩) | (go_at_call 33; refine (fits_bel _ _ _).mono ?_; rw [hz]; rintro e w2 ⟨rfl, hb2⟩; have hN : w2.heap[w1.heap.size]? = some (.cells #[.int .i64 K.c0, .int .i64 (K.b0 + (b - a))] 53 (0, 0)) := heap_below (heap_new rfl) hb2; have h2 : At w2 p K := heap_below (heap_alloc (heap_below h hb1) _) hb2; have hk2 : Below w.heap.size w w2 := Below.trans (Below.alloc hb1 hb1.size _) (hb2.mono (Nat.le_trans hb1.size (by simp)))) | (go_at_call 34; refine (has_any p K 0 K.c0 K.b0 a _ h2 hS).mono ?_; rw [hh]; rintro e w3 ⟨rfl, hb3⟩))
  go_ret
  exact ⟨rfl, hk2.trans (hb3.mono hk2.size)⟩
theorem change_ok0 (p : Nat) (K : Bud) (a b : Int) (w : World) (h : At w p K) (hI : K.Inv) (ha : fairB 0 a = true) (hb : fairB 0 b = true) (hz : fitsB K.c0 (K.b0 + (b - a)) = true) (hh : hasB K.c0 K.b0 a = true) :
    Calls Try.prog 15 #[.pointer (some ⟨p, 0, none⟩), .int .i64 0, .int .i64 a, .int .i64 b] w fun e w' => e = .returned (.int .i64 0) ∧ Keep p w w' ∧ At w' p (K.put 0 K.c0 (K.b0 + (b - a))) := by
  have hn := hI.nz
  have ea := argOk ha
  have eb := argOk hb
  obtain ⟨_, k0, k1⟩ := fairB_iff.1 ha
  obtain ⟨_, k2, k3⟩ := fairB_iff.1 hb
  have n0 := hI.c0; have n1 := hI.C0; have b0 := hI.b0; have b1 := hI.B0
  have hS : K.Seg 0 K.c0 K.b0 := K.seg (by omega)
  have f2 : w.cell? ⟨p, 2, none⟩ = some (.int .i64 K.c0) := h.cell 2
  have f3 : w.cell? ⟨p, 3, none⟩ = some (.int .i64 K.b0) := h.cell 3
  have e0 : wrap64 (b - a) = b - a := wrap_in (by omega)
  have e1 : wrap64 (K.c0 + 0) = K.c0 := by rw [wrap_in (by omega)]; omega
  have e2 : wrap64 (K.b0 + (b - a)) = K.b0 + (b - a) := wrap_in (by omega)
  clear n0 n1 b0 b1 k0 k1 k2 k3
  go_enter Try.func15, Try.ntmps15
  go_wp2_with (first | (go_at_call 31; with_reducible refine (check_any p K 0 a _ h hn).mono ?_; rw [ea]; rintro e w' ⟨rfl, rfl⟩) | (go_at_call 31; with_reducible refine (check_any p K 0 b _ h hn).mono ?_; rw [eb]; rintro e w' ⟨rfl, rfl⟩) | (go_at_call 32; with_reducible refine (plus_bel K.c0 K.b0 0 (b - a) _ _ e1 e2 _).mono ?_; rintro e w1 ⟨rfl, hb1⟩) | (go_at_call 33; refine (fits_bel _ _ _).mono ?_; rw [hz]; rintro e w2 ⟨rfl, hb2⟩; have hN : w2.heap[w1.heap.size]? = some (.cells #[.int .i64 K.c0, .int .i64 (K.b0 + (b - a))] 53 (0, 0)) := heap_below (heap_new rfl) hb2; have h2 : At w2 p K := heap_below (heap_alloc (heap_below h hb1) _) hb2; have hk2 : Below w.heap.size w w2 := Below.trans (Below.alloc hb1 hb1.size _) (hb2.mono (Nat.le_trans hb1.size (by simp)))) | (go_at_call 34; refine (has_any p K 0 K.c0 K.b0 a _ h2 hS).mono ?_; rw [hh]; rintro e w3 ⟨rfl, hb3⟩))
  have hA3 := h2.below hb3
  have hB3 := heap_below hN hb3
  have hk3 := (Keep.of_below (p := p) hk2).trans (Keep.of_below hb3)
  clear h h2 hN hb3 hb2 hk2 f2 f3
  have f2 : w3.cell? ⟨p, 2, none⟩ = some (.int .i64 K.c0) := hA3.cell 2
  have f3 : w3.cell? ⟨p, 3, none⟩ = some (.int .i64 K.b0) := hA3.cell 3
  have g2 : w3.frozen? ⟨p, 2, none⟩ = false := hA3.frozen 2
  have g3 : w3.frozen? ⟨p, 3, none⟩ = false := hA3.frozen 3
  have l0 : w3.cell? ⟨w1.heap.size, 0, none⟩ = some (.int .i64 K.c0) := cell_of hB3 0
  have l1 : w3.cell? ⟨w1.heap.size, 1, none⟩ = some (.int .i64 (K.b0 + (b - a))) := cell_of hB3 1
  go_region
  go_wp2
  go_ret
  exact ⟨rfl, by (repeat (first | assumption | exact Keep.refl _ _ | (refine Keep.alloc ?_ _) | (refine Keep.setCell ?_ _ _) | (refine Keep.drew ?_) | (refine Keep.drewN ?_ _))), by unfold At at *; exact heap_drew (heap_set (heap_set hA3 _) _)⟩
theorem change_full1 (p : Nat) (K : Bud) (a b : Int) (w : World) (h : At w p K) (hI : K.Inv) (ha : fairB 1 a = true) (hb : fairB 1 b = true) (hz : fitsB K.c1 (K.b1 + (b - a)) = false) :
    Calls Try.prog 15 #[.pointer (some ⟨p, 0, none⟩), .int .i64 1, .int .i64 a, .int .i64 b] w fun e w' => e = .returned (.int .i64 7) ∧ Below w.heap.size w w' := by
  have hn := hI.nz
  have ea := argOk ha
  have eb := argOk hb
  obtain ⟨_, k0, k1⟩ := fairB_iff.1 ha
  obtain ⟨_, k2, k3⟩ := fairB_iff.1 hb
  have n0 := hI.c1; have n1 := hI.C1; have b0 := hI.b1; have b1 := hI.B1
  have hS : K.Seg 1 K.c1 K.b1 := K.seg (by omega)
  have f4 : w.cell? ⟨p, 4, none⟩ = some (.int .i64 K.c1) := h.cell 4
  have f5 : w.cell? ⟨p, 5, none⟩ = some (.int .i64 K.b1) := h.cell 5
  have e0 : wrap64 (b - a) = b - a := wrap_in (by omega)
  have e1 : wrap64 (K.c1 + 0) = K.c1 := by rw [wrap_in (by omega)]; omega
  have e2 : wrap64 (K.b1 + (b - a)) = K.b1 + (b - a) := wrap_in (by omega)
  clear n0 n1 b0 b1 k0 k1 k2 k3
  go_enter Try.func15, Try.ntmps15
  go_wp2_with (first | (go_at_call 31; with_reducible refine (check_any p K 1 a _ h hn).mono ?_; rw [ea]; rintro e w' ⟨rfl, rfl⟩) | (go_at_call 31; with_reducible refine (check_any p K 1 b _ h hn).mono ?_; rw [eb]; rintro e w' ⟨rfl, rfl⟩) | (go_at_call 32; with_reducible refine (plus_bel K.c1 K.b1 0 (b - a) _ _ e1 e2 _).mono ?_; rintro e w1 ⟨rfl, hb1⟩) | (go_at_call 33; refine (fits_bel _ _ _).mono ?_; rw [hz]; rintro e w2 ⟨rfl, hb2⟩; have hN : w2.heap[w1.heap.size]? = some (.cells #[.int .i64 K.c1, .int .i64 (K.b1 + (b - a))] 53 (0, 0)) := heap_below (heap_new rfl) hb2; have h2 : At w2 p K := heap_below (heap_alloc (heap_below h hb1) _) hb2; have hk2 : Below w.heap.size w w2 := Below.trans (Below.alloc hb1 hb1.size _) (hb2.mono (Nat.le_trans hb1.size (by simp)))))
  go_ret
  exact ⟨rfl, hk2⟩
theorem change_no1 (p : Nat) (K : Bud) (a b : Int) (w : World) (h : At w p K) (hI : K.Inv) (ha : fairB 1 a = true) (hb : fairB 1 b = true) (hz : fitsB K.c1 (K.b1 + (b - a)) = true) (hh : hasB K.c1 K.b1 a = false) :
    Calls Try.prog 15 #[.pointer (some ⟨p, 0, none⟩), .int .i64 1, .int .i64 a, .int .i64 b] w fun e w' => e = .returned (.int .i64 9) ∧ Below w.heap.size w w' := by
  have hn := hI.nz
  have ea := argOk ha
  have eb := argOk hb
  obtain ⟨_, k0, k1⟩ := fairB_iff.1 ha
  obtain ⟨_, k2, k3⟩ := fairB_iff.1 hb
  have n0 := hI.c1; have n1 := hI.C1; have b0 := hI.b1; have b1 := hI.B1
  have hS : K.Seg 1 K.c1 K.b1 := K.seg (by omega)
  have f4 : w.cell? ⟨p, 4, none⟩ = some (.int .i64 K.c1) := h.cell 4
  have f5 : w.cell? ⟨p, 5, none⟩ = some (.int .i64 K.b1) := h.cell 5
  have e0 : wrap64 (b - a) = b - a := wrap_in (by omega)
  have e1 : wrap64 (K.c1 + 0) = K.c1 := by rw [wrap_in (by omega)]; omega
  have e2 : wrap64 (K.b1 + (b - a)) = K.b1 + (b - a) := wrap_in (by omega)
  clear n0 n1 b0 b1 k0 k1 k2 k3
  go_enter Try.func15, Try.ntmps15
  go_wp2_with (first | (go_at_call 31; with_reducible refine (check_any p K 1 a _ h hn).mono ?_; rw [ea]; rintro e w' ⟨rfl, rfl⟩) | (go_at_call 31; with_reducible refine (check_any p K 1 b _ h hn).mono ?_; rw [eb]; rintro e w' ⟨rfl, rfl⟩) | (go_at_call 32; with_reducible refine (plus_bel K.c1 K.b1 0 (b - a) _ _ e1 e2 _).mono ?_; rintro e w1 ⟨rfl, hb1⟩) | (go_at_call 33; refine (fits_bel _ _ _).mono ?_; rw [hz]; rintro e w2 ⟨rfl, hb2⟩; have hN : w2.heap[w1.heap.size]? = some (.cells #[.int .i64 K.c1, .int .i64 (K.b1 + (b - a))] 53 (0, 0)) := heap_below (heap_new rfl) hb2; have h2 : At w2 p K := heap_below (heap_alloc (heap_below h hb1) _) hb2; have hk2 : Below w.heap.size w w2 := Below.trans (Below.alloc hb1 hb1.size _) (hb2.mono (Nat.le_trans hb1.size (by simp)))) | (go_at_call 34; refine (has_any p K 1 K.c1 K.b1 a _ h2 hS).mono ?_; rw [hh]; rintro e w3 ⟨rfl, hb3⟩))
  go_ret
  exact ⟨rfl, hk2.trans (hb3.mono hk2.size)⟩
theorem change_ok1 (p : Nat) (K : Bud) (a b : Int) (w : World) (h : At w p K) (hI : K.Inv) (ha : fairB 1 a = true) (hb : fairB 1 b = true) (hz : fitsB K.c1 (K.b1 + (b - a)) = true) (hh : hasB K.c1 K.b1 a = true) :
    Calls Try.prog 15 #[.pointer (some ⟨p, 0, none⟩), .int .i64 1, .int .i64 a, .int .i64 b] w fun e w' => e = .returned (.int .i64 0) ∧ Keep p w w' ∧ At w' p (K.put 1 K.c1 (K.b1 + (b - a))) := by
  have hn := hI.nz
  have ea := argOk ha
  have eb := argOk hb
  obtain ⟨_, k0, k1⟩ := fairB_iff.1 ha
  obtain ⟨_, k2, k3⟩ := fairB_iff.1 hb
  have n0 := hI.c1; have n1 := hI.C1; have b0 := hI.b1; have b1 := hI.B1
  have hS : K.Seg 1 K.c1 K.b1 := K.seg (by omega)
  have f4 : w.cell? ⟨p, 4, none⟩ = some (.int .i64 K.c1) := h.cell 4
  have f5 : w.cell? ⟨p, 5, none⟩ = some (.int .i64 K.b1) := h.cell 5
  have e0 : wrap64 (b - a) = b - a := wrap_in (by omega)
  have e1 : wrap64 (K.c1 + 0) = K.c1 := by rw [wrap_in (by omega)]; omega
  have e2 : wrap64 (K.b1 + (b - a)) = K.b1 + (b - a) := wrap_in (by omega)
  clear n0 n1 b0 b1 k0 k1 k2 k3
  go_enter Try.func15, Try.ntmps15
  go_wp2_with (first | (go_at_call 31; with_reducible refine (check_any p K 1 a _ h hn).mono ?_; rw [ea]; rintro e w' ⟨rfl, rfl⟩) | (go_at_call 31; with_reducible refine (check_any p K 1 b _ h hn).mono ?_; rw [eb]; rintro e w' ⟨rfl, rfl⟩) | (go_at_call 32; with_reducible refine (plus_bel K.c1 K.b1 0 (b - a) _ _ e1 e2 _).mono ?_; rintro e w1 ⟨rfl, hb1⟩) | (go_at_call 33; refine (fits_bel _ _ _).mono ?_; rw [hz]; rintro e w2 ⟨rfl, hb2⟩; have hN : w2.heap[w1.heap.size]? = some (.cells #[.int .i64 K.c1, .int .i64 (K.b1 + (b - a))] 53 (0, 0)) := heap_below (heap_new rfl) hb2; have h2 : At w2 p K := heap_below (heap_alloc (heap_below h hb1) _) hb2; have hk2 : Below w.heap.size w w2 := Below.trans (Below.alloc hb1 hb1.size _) (hb2.mono (Nat.le_trans hb1.size (by simp)))) | (go_at_call 34; refine (has_any p K 1 K.c1 K.b1 a _ h2 hS).mono ?_; rw [hh]; rintro e w3 ⟨rfl, hb3⟩))
  have hA3 := h2.below hb3
  have hB3 := heap_below hN hb3
  have hk3 := (Keep.of_below (p := p) hk2).trans (Keep.of_below hb3)
  clear h h2 hN hb3 hb2 hk2 f4 f5
  have f4 : w3.cell? ⟨p, 4, none⟩ = some (.int .i64 K.c1) := hA3.cell 4
  have f5 : w3.cell? ⟨p, 5, none⟩ = some (.int .i64 K.b1) := hA3.cell 5
  have g4 : w3.frozen? ⟨p, 4, none⟩ = false := hA3.frozen 4
  have g5 : w3.frozen? ⟨p, 5, none⟩ = false := hA3.frozen 5
  have l0 : w3.cell? ⟨w1.heap.size, 0, none⟩ = some (.int .i64 K.c1) := cell_of hB3 0
  have l1 : w3.cell? ⟨w1.heap.size, 1, none⟩ = some (.int .i64 (K.b1 + (b - a))) := cell_of hB3 1
  go_region
  go_wp2
  go_ret
  exact ⟨rfl, by (repeat (first | assumption | exact Keep.refl _ _ | (refine Keep.alloc ?_ _) | (refine Keep.setCell ?_ _ _) | (refine Keep.drew ?_) | (refine Keep.drewN ?_ _))), by unfold At at *; exact heap_drew (heap_set (heap_set hA3 _) _)⟩
theorem change_any (p : Nat) (K : Bud) (g a b : Int) (w : World) (h : At w p K) (hI : K.Inv) :
    Calls Try.prog 15 #[.pointer (some ⟨p, 0, none⟩), .int .i64 g, .int .i64 a, .int .i64 b] w fun e w' => e = .returned (.int .i64 (changeR K g a b).1) ∧ Keep p w w' ∧ At w' p (changeR K g a b).2 := by
  by_cases hf : (fairB g a && fairB g b) = true
  · have hab : fairB g a = true ∧ fairB g b = true := by simpa using hf
    obtain ⟨ha, hb⟩ := hab
    have hg := fair_seg ha
    by_cases hz : fitsB (K.cnt g) (K.cost g + (b - a)) = true
    · by_cases hh : hasB (K.cnt g) (K.cost g) a = true
      · rw [show changeR K g a b = _ from by unfold changeR; rw [if_pos hf, if_pos hz, if_pos hh]]
        rcases hg with rfl | rfl
        · exact change_ok0 p K a b w h hI ha hb hz hh
        · exact change_ok1 p K a b w h hI ha hb hz hh
      · rw [show changeR K g a b = _ from by unfold changeR; rw [if_pos hf, if_pos hz, if_neg hh]]
        have hh : hasB (K.cnt g) (K.cost g) a = false := by simpa using hh
        rcases hg with rfl | rfl
        · refine (change_no0 p K a b w h hI ha hb hz hh).mono ?_
          rintro e w' ⟨rfl, hb⟩
          exact ⟨rfl, Keep.of_below hb, h.below hb⟩
        · refine (change_no1 p K a b w h hI ha hb hz hh).mono ?_
          rintro e w' ⟨rfl, hb⟩
          exact ⟨rfl, Keep.of_below hb, h.below hb⟩
    · rw [show changeR K g a b = _ from by unfold changeR; rw [if_pos hf, if_neg hz]]
      have hz : fitsB (K.cnt g) (K.cost g + (b - a)) = false := by simpa using hz
      rcases hg with rfl | rfl
      · refine (change_full0 p K a b w h hI ha hb hz).mono ?_
        rintro e w' ⟨rfl, hb⟩
        exact ⟨rfl, Keep.of_below hb, h.below hb⟩
      · refine (change_full1 p K a b w h hI ha hb hz).mono ?_
        rintro e w' ⟨rfl, hb⟩
        exact ⟨rfl, Keep.of_below hb, h.below hb⟩
  · rw [show changeR K g a b = _ from by unfold changeR; rw [if_neg hf]]
    refine (change_arg p K g a b w h hI (by simpa using hf)).mono ?_
    rintro e w' ⟨rfl, rfl⟩
    exact ⟨rfl, Keep.refl _ _, h⟩

theorem lawTotal_any (p : Nat) (K : Bud) (x y : Int) (w : World) (h : At w p K) (hI : K.Inv) :
    Calls Try.prog 19 #[.pointer (some ⟨p, 0, none⟩), .int .i64 x, .int .i64 y] w fun e w' => e = .returned (.bool (eq2 (K.c0 + K.c1) (K.b0 + K.b1) x y)) ∧ Below w.heap.size w w' := by
  go_enter Try.func19, Try.ntmps19
  go_wp2_with (first | (go_at_call 17; refine (total_any p K _ h hI).mono ?_; rintro e w1 ⟨rfl, hb⟩) | (go_at_call 26; refine (pair_any _ _ _ _ _).mono ?_; rintro e w2 ⟨rfl, rfl⟩))
  go_ret
  exact ⟨rfl, hb⟩
theorem lawOver_any (p : Nat) (K : Bud) (x y : Int) (w : World) (h : At w p K) (hI : K.Inv) :
    Calls Try.prog 27 #[.pointer (some ⟨p, 0, none⟩), .int .i64 x, .int .i64 y] w fun e w' => e = .returned (.bool (eq2 (max 0 (K.c0 + K.c1 - K.mc)) (max 0 (K.b0 + K.b1 - K.mb)) x y)) ∧ Below w.heap.size w w' := by
  have h9 := over_any p K w h hI
  generalize max 0 (K.c0 + K.c1 - K.mc) = u at *
  generalize max 0 (K.b0 + K.b1 - K.mb) = v at *
  go_enter Try.func27, Try.ntmps27
  go_wp2_with (first | (go_at_call 36; refine h9.mono ?_; rintro e w1 ⟨rfl, hb⟩) | (go_at_call 26; refine (pair_any _ _ _ _ _).mono ?_; rintro e w2 ⟨rfl, rfl⟩))
  go_ret
  exact ⟨rfl, hb⟩
/-- What Used answers. -/
def usedN (K : Bud) (g : Int) : Int := if fairB g 0 = true then K.cnt g else 0
def usedC (K : Bud) (g : Int) : Int := if fairB g 0 = true then K.cost g else 0
theorem used_all (p : Nat) (K : Bud) (g : Int) (w : World) (h : At w p K) (hI : K.Inv) :
    Calls Try.prog 21 #[.pointer (some ⟨p, 0, none⟩), .int .i64 g] w fun e w' => e = .returned (.tuple #[.int .i64 (usedN K g), .int .i64 (usedC K g)]) ∧ Below w.heap.size w w' := by
  by_cases hf : fairB g 0 = true
  · rw [show usedN K g = _ from by unfold usedN; rw [if_pos hf], show usedC K g = _ from by unfold usedC; rw [if_pos hf]]
    exact used_any p K g _ _ w h hI (K.seg (fair_seg hf))
  · rw [show usedN K g = _ from by unfold usedN; rw [if_neg hf], show usedC K g = _ from by unfold usedC; rw [if_neg hf]]
    exact used_arg p K g w h hI (by simpa using hf)
theorem lawUsed_any (p : Nat) (K : Bud) (g x y : Int) (w : World) (h : At w p K) (hI : K.Inv) :
    Calls Try.prog 22 #[.pointer (some ⟨p, 0, none⟩), .int .i64 g, .int .i64 x, .int .i64 y] w fun e w' => e = .returned (.bool (eq2 (usedN K g) (usedC K g) x y)) ∧ Below w.heap.size w w' := by
  go_enter Try.func22, Try.ntmps22
  go_wp2_with (first | (go_at_call 21; refine (used_all p K g _ h hI).mono ?_; rintro e w1 ⟨rfl, hb⟩) | (go_at_call 26; refine (pair_any _ _ _ _ _).mono ?_; rintro e w2 ⟨rfl, rfl⟩))
  go_ret
  exact ⟨rfl, hb⟩
end Go.Proofs.Ytfoccffngdhlfaa
