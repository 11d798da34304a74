/-
  The contract of budget.Budget's Remove.
-/
import Derived.Test.YtfoccffngdhlfaaB
import Derived.Deep.AppendLies
namespace Go.Proofs.Ytfoccffngdhlfaa
open Go.ChangeShapes Go.WideShapes Go.ChangeAt Go.RowKit
set_option linter.unusedVariables false

set_option maxHeartbeats 4000000 in
theorem remove_ok0 (p : Nat) (K : Bud) (c : Int) (w : World) (h : At w p K) (hI : K.Inv) (hf : fairB 0 c = true) (hz : hasB K.c0 K.b0 c = true) :
    Calls Try.prog 18 #[.pointer (some ⟨p, 0, none⟩), .int .i64 0, .int .i64 c] w fun e w' => e = .returned (.int .i64 0) ∧ Keep p w w' ∧ At w' p (K.put 0 (K.c0 - 1) (K.b0 - c)) := by
  have hn := hI.nz
  have ha := argOk hf
  obtain ⟨_, k0, k1⟩ := fairB_iff.1 hf
  have n0 := hI.c0; have n1 := hI.C0; have b0 := hI.b0; have b1 := hI.B0
  have lt := h.lt
  have ez : IntKind.i64.wrap (-c) = -c := by rw [IntWalk.i64_left]; exact wrap_in (by omega)
  have e1 : wrap64 (K.c0 + -1) = K.c0 - 1 := by rw [wrap_in (by omega)]; omega
  have e2 : wrap64 (K.b0 + -c) = K.b0 - c := by rw [wrap_in (by omega)]; omega
  have hS : K.Seg 0 K.c0 K.b0 := K.seg (by omega)
  go_enter Try.func18, Try.ntmps18
  go_wp2_with (first | (go_at_call 31; refine (check_any p K 0 c _ h hn).mono ?_; rw [ha]; rintro e w' ⟨rfl, rfl⟩) | (go_at_call 34; refine (has_any p K 0 K.c0 K.b0 c _ h hS).mono ?_; rw [hz]; rintro e w' ⟨rfl, hb⟩))
  refine wp_seen (fun W => Below w.heap.size w W ∧ At W p K) ⟨hb, h.below hb⟩ ?_
  rintro W ⟨hk, hA⟩
  have f2 : W.cell? ⟨p, 2, none⟩ = some (.int .i64 K.c0) := hA.cell 2
  have f3 : W.cell? ⟨p, 3, none⟩ = some (.int .i64 K.b0) := hA.cell 3
  have g2 : W.frozen? ⟨p, 2, none⟩ = false := hA.frozen 2
  have g3 : W.frozen? ⟨p, 3, none⟩ = false := hA.frozen 3
  have lt1 := hA.lt
  clear hb hn ha k0 k1 n0 n1 b0 b1 lt hS hz hI hf h
  go_region_with (first | (go_at_call 32; refine (plus_bel K.c0 K.b0 (-1) (-c) _ _ e1 e2 _).mono ?_; rintro e w' ⟨rfl, hb⟩; have m0 : w'.cell? ⟨p, 2, none⟩ = some (.int .i64 K.c0) := (hb.cell (p := ⟨p, 2, none⟩) lt1).trans f2; have m1 : w'.cell? ⟨p, 3, none⟩ = some (.int .i64 K.b0) := (hb.cell (p := ⟨p, 3, none⟩) lt1).trans f3; have o0 : w'.frozen? ⟨p, 2, none⟩ = false := (hb.frozen (p := ⟨p, 2, none⟩) lt1).trans g2; have o1 : w'.frozen? ⟨p, 3, none⟩ = false := (hb.frozen (p := ⟨p, 3, none⟩) lt1).trans g3))
  all_goals go_wp2
  all_goals go_ret
  all_goals exact ⟨rfl, Keep.setCell (Keep.setCell ((Keep.of_below hk).trans (Keep.trans (Keep.drew (Keep.refl _ _)) (Keep.of_below hb))) _ _) _ _, by unfold At at *; exact heap_set (heap_set (heap_below (heap_drew hA) hb) _) _⟩

set_option maxHeartbeats 4000000 in
theorem remove_ok1 (p : Nat) (K : Bud) (c : Int) (w : World) (h : At w p K) (hI : K.Inv) (hf : fairB 1 c = true) (hz : hasB K.c1 K.b1 c = true) :
    Calls Try.prog 18 #[.pointer (some ⟨p, 0, none⟩), .int .i64 1, .int .i64 c] w fun e w' => e = .returned (.int .i64 0) ∧ Keep p w w' ∧ At w' p (K.put 1 (K.c1 - 1) (K.b1 - c)) := by
  have hn := hI.nz
  have ha := argOk hf
  obtain ⟨_, k0, k1⟩ := fairB_iff.1 hf
  have n0 := hI.c1; have n1 := hI.C1; have b0 := hI.b1; have b1 := hI.B1
  have lt := h.lt
  have ez : IntKind.i64.wrap (-c) = -c := by rw [IntWalk.i64_left]; exact wrap_in (by omega)
  have e1 : wrap64 (K.c1 + -1) = K.c1 - 1 := by rw [wrap_in (by omega)]; omega
  have e2 : wrap64 (K.b1 + -c) = K.b1 - c := by rw [wrap_in (by omega)]; omega
  have hS : K.Seg 1 K.c1 K.b1 := K.seg (by omega)
  go_enter Try.func18, Try.ntmps18
  go_wp2_with (first | (go_at_call 31; refine (check_any p K 1 c _ h hn).mono ?_; rw [ha]; rintro e w' ⟨rfl, rfl⟩) | (go_at_call 34; refine (has_any p K 1 K.c1 K.b1 c _ h hS).mono ?_; rw [hz]; rintro e w' ⟨rfl, hb⟩))
  refine wp_seen (fun W => Below w.heap.size w W ∧ At W p K) ⟨hb, h.below hb⟩ ?_
  rintro W ⟨hk, hA⟩
  have f4 : W.cell? ⟨p, 4, none⟩ = some (.int .i64 K.c1) := hA.cell 4
  have f5 : W.cell? ⟨p, 5, none⟩ = some (.int .i64 K.b1) := hA.cell 5
  have g4 : W.frozen? ⟨p, 4, none⟩ = false := hA.frozen 4
  have g5 : W.frozen? ⟨p, 5, none⟩ = false := hA.frozen 5
  have lt1 := hA.lt
  clear hb hn ha k0 k1 n0 n1 b0 b1 lt hS hz hI hf h
  go_region_with (first | (go_at_call 32; refine (plus_bel K.c1 K.b1 (-1) (-c) _ _ e1 e2 _).mono ?_; rintro e w' ⟨rfl, hb⟩; have m0 : w'.cell? ⟨p, 4, none⟩ = some (.int .i64 K.c1) := (hb.cell (p := ⟨p, 4, none⟩) lt1).trans f4; have m1 : w'.cell? ⟨p, 5, none⟩ = some (.int .i64 K.b1) := (hb.cell (p := ⟨p, 5, none⟩) lt1).trans f5; have o0 : w'.frozen? ⟨p, 4, none⟩ = false := (hb.frozen (p := ⟨p, 4, none⟩) lt1).trans g4; have o1 : w'.frozen? ⟨p, 5, none⟩ = false := (hb.frozen (p := ⟨p, 5, none⟩) lt1).trans g5))
  all_goals go_wp2
  all_goals go_ret
  all_goals exact ⟨rfl, Keep.setCell (Keep.setCell ((Keep.of_below hk).trans (Keep.trans (Keep.drew (Keep.refl _ _)) (Keep.of_below hb))) _ _) _ _, by unfold At at *; exact heap_set (heap_set (heap_below (heap_drew hA) hb) _) _⟩

end Go.Proofs.Ytfoccffngdhlfaa
