/-
  The contract of the reference's Halve.
-/
import Derived.Test.YtffniljefbpoiaaL
namespace Go.Proofs.Ytffniljefbpoiaa
open Go.ChangeShapes Go.WideShapes Go.ChangeAt Go.RowKit
set_option linter.unusedVariables false

set_option maxRecDepth 100000 in
set_option maxHeartbeats 4000000 in
theorem refHalve_is {w : World} {R C : Nat → Nat} {K : Sk} (s : IsRef w R C K) (hK : K.Ok) : Calls Try.prog 15 #[.agg (refC K R C)] w fun e w' => RefBack w K.half e w' := by
  have hn := hK.n16
  have n0 : 0 < K.n := by omega
  have n1 : K.n ≤ 65536 := hn.2.1
  clear hn
  have b0 : Below w.heap.size w ((w.alloc (.cells (refC K R C) 27)).alloc (.cells #[.int .i64 0, .int .i64 0, .int .i64 0, .int .u64 0, .slice none 0 0, .slice none 0 0, .slice none 0 0, .slice none 0 0] 27)) := ((Below.refl _ _).alloc (Nat.le_refl _) _).alloc (by simp) _
  have O0 : ((w.alloc (.cells (refC K R C) 27)).alloc (.cells #[.int .i64 0, .int .i64 0, .int .i64 0, .int .u64 0, .slice none 0 0, .slice none 0 0, .slice none 0 0, .slice none 0 0] 27)).heap[w.heap.size]? = some (.cells (refC K R C) 27 (0, 0)) := heap_alloc (heap_new rfl) _
  have T0 : ((w.alloc (.cells (refC K R C) 27)).alloc (.cells #[.int .i64 0, .int .i64 0, .int .i64 0, .int .u64 0, .slice none 0 0, .slice none 0 0, .slice none 0 0, .slice none 0 0] 27)).heap[w.heap.size + 1]? = some (.cells #[.int .i64 0, .int .i64 0, .int .i64 0, .int .u64 0, .slice none 0 0, .slice none 0 0, .slice none 0 0, .slice none 0 0] 27 (0, 0)) := heap_new (by simp)
  have s0 : IsRef ((w.alloc (.cells (refC K R C) 27)).alloc (.cells #[.int .i64 0, .int .i64 0, .int .i64 0, .int .u64 0, .slice none 0 0, .slice none 0 0, .slice none 0 0, .slice none 0 0] 27)) R C K := s.below b0
  have c0 : ((w.alloc (.cells (refC K R C) 27)).alloc (.cells #[.int .i64 0, .int .i64 0, .int .i64 0, .int .u64 0, .slice none 0 0, .slice none 0 0, .slice none 0 0, .slice none 0 0] 27)).cell? ⟨w.heap.size, 0, none⟩ = some (.int .i64 (K.n : Nat)) := cell_of O0 0
  have c1 : ((w.alloc (.cells (refC K R C) 27)).alloc (.cells #[.int .i64 0, .int .i64 0, .int .i64 0, .int .u64 0, .slice none 0 0, .slice none 0 0, .slice none 0 0, .slice none 0 0] 27)).cell? ⟨w.heap.size, 1, none⟩ = some (.int .i64 (K.s : Nat)) := cell_of O0 1
  have c2 : ((w.alloc (.cells (refC K R C) 27)).alloc (.cells #[.int .i64 0, .int .i64 0, .int .i64 0, .int .u64 0, .slice none 0 0, .slice none 0 0, .slice none 0 0, .slice none 0 0] 27)).cell? ⟨w.heap.size, 2, none⟩ = some (.int .i64 (K.a : Nat)) := cell_of O0 2
  have c3 : ((w.alloc (.cells (refC K R C) 27)).alloc (.cells #[.int .i64 0, .int .i64 0, .int .i64 0, .int .u64 0, .slice none 0 0, .slice none 0 0, .slice none 0 0, .slice none 0 0] 27)).cell? ⟨w.heap.size, 3, none⟩ = some (.int .u64 K.seed) := cell_of O0 3
  have c4 : ((w.alloc (.cells (refC K R C) 27)).alloc (.cells #[.int .i64 0, .int .i64 0, .int .i64 0, .int .u64 0, .slice none 0 0, .slice none 0 0, .slice none 0 0, .slice none 0 0] 27)).cell? ⟨w.heap.size, 4, none⟩ = some (.slice (some ⟨R 0, 0, none⟩) K.n (C 0)) := cell_of O0 4
  have c5 : ((w.alloc (.cells (refC K R C) 27)).alloc (.cells #[.int .i64 0, .int .i64 0, .int .i64 0, .int .u64 0, .slice none 0 0, .slice none 0 0, .slice none 0 0, .slice none 0 0] 27)).cell? ⟨w.heap.size, 5, none⟩ = some (.slice (some ⟨R 1, 0, none⟩) K.n (C 1)) := cell_of O0 5
  have c6 : ((w.alloc (.cells (refC K R C) 27)).alloc (.cells #[.int .i64 0, .int .i64 0, .int .i64 0, .int .u64 0, .slice none 0 0, .slice none 0 0, .slice none 0 0, .slice none 0 0] 27)).cell? ⟨w.heap.size, 6, none⟩ = some (.slice (some ⟨R 2, 0, none⟩) K.n (C 2)) := cell_of O0 6
  have c7 : ((w.alloc (.cells (refC K R C) 27)).alloc (.cells #[.int .i64 0, .int .i64 0, .int .i64 0, .int .u64 0, .slice none 0 0, .slice none 0 0, .slice none 0 0, .slice none 0 0] 27)).cell? ⟨w.heap.size, 7, none⟩ = some (.slice (some ⟨R 3, 0, none⟩) K.n (C 3)) := cell_of O0 7
  go_enter Try.func15, Try.ntmps15
  go_upto_region 3 with (first | (go_at_call 31; refine (refCopy_is s0 hK).mono ?_; rintro e w1 ⟨R', C', rfl, b1, own1, ap1, r1⟩; have o1 : w1.heap[w.heap.size]? = _ := (b1.block _ (lt_of_heap O0)).trans O0; have d0 : w1.cell? ⟨w.heap.size, 0, none⟩ = some (.int .i64 (K.n : Nat)) := cell_of o1 0; have f0 : w1.frozen? ⟨w.heap.size, 0, none⟩ = false := frozen_of o1 0; have d1 : w1.cell? ⟨w.heap.size, 1, none⟩ = some (.int .i64 (K.s : Nat)) := cell_of o1 1; have f1 : w1.frozen? ⟨w.heap.size, 1, none⟩ = false := frozen_of o1 1; have d2 : w1.cell? ⟨w.heap.size, 2, none⟩ = some (.int .i64 (K.a : Nat)) := cell_of o1 2; have f2 : w1.frozen? ⟨w.heap.size, 2, none⟩ = false := frozen_of o1 2; have d3 : w1.cell? ⟨w.heap.size, 3, none⟩ = some (.int .u64 K.seed) := cell_of o1 3; have f3 : w1.frozen? ⟨w.heap.size, 3, none⟩ = false := frozen_of o1 3; have d4 : w1.cell? ⟨w.heap.size, 4, none⟩ = some (.slice (some ⟨R 0, 0, none⟩) K.n (C 0)) := cell_of o1 4; have f4 : w1.frozen? ⟨w.heap.size, 4, none⟩ = false := frozen_of o1 4; have d5 : w1.cell? ⟨w.heap.size, 5, none⟩ = some (.slice (some ⟨R 1, 0, none⟩) K.n (C 1)) := cell_of o1 5; have f5 : w1.frozen? ⟨w.heap.size, 5, none⟩ = false := frozen_of o1 5; have d6 : w1.cell? ⟨w.heap.size, 6, none⟩ = some (.slice (some ⟨R 2, 0, none⟩) K.n (C 2)) := cell_of o1 6; have f6 : w1.frozen? ⟨w.heap.size, 6, none⟩ = false := frozen_of o1 6; have d7 : w1.cell? ⟨w.heap.size, 7, none⟩ = some (.slice (some ⟨R 3, 0, none⟩) K.n (C 3)) := cell_of o1 7; have f7 : w1.frozen? ⟨w.heap.size, 7, none⟩ = false := frozen_of o1 7; unfold refC))
  refine wp_seen (Rh w w.heap.size (w.heap.size + 1) R' C' K (fun r i => ((K.c r i / 2 : Nat) : Int)) 0 0) (Rh.start _ b0 (Nat.le_refl _) (by omega) (by omega) O0 T0 b1 own1 ap1 r1) ?_
  clear b0 O0 T0 s0 c0 d0 f0 c1 d1 f1 c2 d2 f2 c3 d3 f3 c4 d4 f4 c5 d5 f5 c6 d6 f6 c7 d7 f7 o1 b1 own1 ap1 r1
  generalize w.heap.size + 1 = T
  generalize w.heap.size = B
  intro W M
  go_loopw [3] (fun x wr => ∃ j : Nat, j ≤ 4 ∧ x = .int .i64 (j : Nat) ∧ Rh w B T R' C' K (fun r i => ((K.c r i / 2 : Nat) : Int)) j 0 wr) (fun x _ => 5 - (intOf x).toNat)
  case atStart => exact ⟨0, by omega, rfl, M⟩
  case round =>
    obtain ⟨j, hj, rfl, v⟩ := hrel
    clear M
    by_cases hj4 : j < 4
    · go_wp2_with fail
      go_loopw [4] (fun x wq => ∃ k : Nat, k ≤ K.n ∧ x = .int .i64 (k : Nat) ∧ Rh w B T R' C' K (fun r i => ((K.c r i / 2 : Nat) : Int)) j k wq) (fun x _ => K.n + 1 - (intOf x).toNat)
      case atStart => exact ⟨0, by omega, rfl, v⟩
      case round =>
        obtain ⟨k, hk, rfl, v⟩ := hrel
        have c0 : World.cell? _ ⟨B, 0, none⟩ = some (.int .i64 (K.n : Nat)) := cell_of v.obj 0
        by_cases hkn : k < K.n
        · have c1 := (v.rows j hj4).cell hkn
          rw [if_neg (by omega)] at c1
          have z1 := (v.rows j hj4).frozen k
          have c4 : World.cell? _ ⟨B, 4 + j, none⟩ = some (.slice (some ⟨R' j, 0, none⟩) K.n (C' j)) := (cell_of v.obj _).trans (refC_at K R' C' j hj4)
          have h15 := hK.small j k
          have e1 := Lib.hid (show ((K.c j k / 2 : Nat) : Int) = ((K.c j k : Nat) : Int) / 2 by omega)
          generalize hy : K.c j k = y at *
          have hy2 := Lib.hid hy
          clear hy
          go_upto_region 8 with fail
          go_region
          go_wp2_with fail
          go_roundw
          case rel => exact ⟨k + 1, by omega, by go_num, (v.word hj4 _ (by show ((K.c j k / 2 : Nat) : Int) = _; rw [hy2.out]; exact e1.out)).drew⟩
          all_goals (simp [intOf]; omega)
        · obtain rfl : k = K.n := by omega
          go_wp2_with fail
          go_roundw
          case rel => exact ⟨j + 1, by omega, by go_num, v.row⟩
          all_goals (simp [intOf]; omega)
    · obtain rfl : j = 4 := by omega
      have c2 : wr.cell? ⟨B, 2, none⟩ = some (.int .i64 (K.a : Nat)) := cell_of v.obj 2
      have z2 : wr.frozen? ⟨B, 2, none⟩ = false := frozen_of v.obj 2
      have ha := hK.few
      go_upto_region 10 with fail
      refine wp_seen (Rf w B T R' C' K.half) ⟨((v.bel).setCell v.hB _), v.hB, v.hT, v.ne, (heap_set v.obj _), (heap_other v.res (Ne.symm v.ne) _), v.own, v.apart, (fun r hr => ((v.ref (L := K.half) rfl (fun _ _ => rfl)) r hr).other (Ne.symm (v.neB hr).1) _)⟩ ?_
      clear v c2 z2 ha
      intro W v
      have c0 : W.cell? ⟨B, 0, none⟩ = some (.int .i64 (K.half.n : Nat)) := cell_of v.obj 0
      have c1 : W.cell? ⟨B, 1, none⟩ = some (.int .i64 (K.half.s : Nat)) := cell_of v.obj 1
      have c2 : W.cell? ⟨B, 2, none⟩ = some (.int .i64 (K.half.a : Nat)) := cell_of v.obj 2
      have c3 : W.cell? ⟨B, 3, none⟩ = some (.int .u64 K.half.seed) := cell_of v.obj 3
      have c4 : W.cell? ⟨B, 4, none⟩ = some (.slice (some ⟨R' 0, 0, none⟩) K.half.n (C' 0)) := cell_of v.obj 4
      have c5 : W.cell? ⟨B, 5, none⟩ = some (.slice (some ⟨R' 1, 0, none⟩) K.half.n (C' 1)) := cell_of v.obj 5
      have c6 : W.cell? ⟨B, 6, none⟩ = some (.slice (some ⟨R' 2, 0, none⟩) K.half.n (C' 2)) := cell_of v.obj 6
      have c7 : W.cell? ⟨B, 7, none⟩ = some (.slice (some ⟨R' 3, 0, none⟩) K.half.n (C' 3)) := cell_of v.obj 7
      have d0 : W.cell? ⟨T, 0, none⟩ = some (.int .i64 0) := cell_of v.res 0
      have d1 : W.cell? ⟨T, 1, none⟩ = some (.int .i64 0) := cell_of v.res 1
      have d2 : W.cell? ⟨T, 2, none⟩ = some (.int .i64 0) := cell_of v.res 2
      have d3 : W.cell? ⟨T, 3, none⟩ = some (.int .u64 0) := cell_of v.res 3
      have d4 : W.cell? ⟨T, 4, none⟩ = some (.slice none 0 0) := cell_of v.res 4
      have d5 : W.cell? ⟨T, 5, none⟩ = some (.slice none 0 0) := cell_of v.res 5
      have d6 : W.cell? ⟨T, 6, none⟩ = some (.slice none 0 0) := cell_of v.res 6
      have d7 : W.cell? ⟨T, 7, none⟩ = some (.slice none 0 0) := cell_of v.res 7
      have f0 : W.frozen? ⟨T, 0, none⟩ = false := frozen_of v.res 0
      have f1 : W.frozen? ⟨T, 1, none⟩ = false := frozen_of v.res 1
      have f2 : W.frozen? ⟨T, 2, none⟩ = false := frozen_of v.res 2
      have f3 : W.frozen? ⟨T, 3, none⟩ = false := frozen_of v.res 3
      have f4 : W.frozen? ⟨T, 4, none⟩ = false := frozen_of v.res 4
      have f5 : W.frozen? ⟨T, 5, none⟩ = false := frozen_of v.res 5
      have f6 : W.frozen? ⟨T, 6, none⟩ = false := frozen_of v.res 6
      have f7 : W.frozen? ⟨T, 7, none⟩ = false := frozen_of v.res 7
      obtain ne1 := v.ne
      go_wp2_with fail
      refine post_seen (Rd w T R' C' K.half) v.done ?_
      clear c0 d0 f0 c1 d1 f1 c2 d2 f2 c3 d3 f3 c4 d4 f4 c5 d5 f5 c6 d6 f6 c7 d7 f7 v
      rintro W ⟨b9, o9, own9, ap9, r9⟩
      have c0 : W.cell? ⟨T, 0, none⟩ = some (.int .i64 (K.half.n : Nat)) := cell_of o9 0
      have c1 : W.cell? ⟨T, 1, none⟩ = some (.int .i64 (K.half.s : Nat)) := cell_of o9 1
      have c2 : W.cell? ⟨T, 2, none⟩ = some (.int .i64 (K.half.a : Nat)) := cell_of o9 2
      have c3 : W.cell? ⟨T, 3, none⟩ = some (.int .u64 K.half.seed) := cell_of o9 3
      have c4 : W.cell? ⟨T, 4, none⟩ = some (.slice (some ⟨R' 0, 0, none⟩) K.half.n (C' 0)) := cell_of o9 4
      have c5 : W.cell? ⟨T, 5, none⟩ = some (.slice (some ⟨R' 1, 0, none⟩) K.half.n (C' 1)) := cell_of o9 5
      have c6 : W.cell? ⟨T, 6, none⟩ = some (.slice (some ⟨R' 2, 0, none⟩) K.half.n (C' 2)) := cell_of o9 6
      have c7 : W.cell? ⟨T, 7, none⟩ = some (.slice (some ⟨R' 3, 0, none⟩) K.half.n (C' 3)) := cell_of o9 7
      exact bodyPost_ret (v := .agg (refC K.half R' C')) (by simp [results, Try.results15, go_sem, c0, c1, c2, c3, c4, c5, c6, c7, refC]) rfl ⟨R', C', rfl, b9, own9, ap9, r9⟩
end Go.Proofs.Ytffniljefbpoiaa
