/-
  The contract of the reference's Add.
-/
import Derived.Test.YtffniljefbpoiaaM
namespace Go.Proofs.Ytffniljefbpoiaa
open Go.ChangeShapes Go.WideShapes Go.ChangeAt Go.RowKit
set_option linter.unusedVariables false

/-- The reference's sketch with a key more is handed back. -/
def AddBack (w : World) (K : Sk) (l : List UInt8) (e : Ending) (w' : World) : Prop := ∃ R C, e = .returned (.tuple #[.agg (refC (K.add l) R C), .bool K.full]) ∧ Below w.heap.size w w' ∧ (∀ r, r < 4 → w.heap.size ≤ R r) ∧ (∀ r s, r < 4 → s < 4 → r ≠ s → R r ≠ R s) ∧ IsRef w' R C (K.add l)
/-- Rows and the places of a key. -/
def Ra (w : World) (B T U : Nat) (R C : Nat → Nat) (K : Sk) (l : List UInt8) (j : Nat) (W : World) : Prop := Rh w B T R C K (fun r i => (((K.up l).c r i : Nat) : Int)) j 0 W ∧ W.heap[U]? = some (.cells (plcC K l) 56 (0, 0))
theorem Ra.put {w W : World} {B T U : Nat} {R C : Nat → Nat} {K : Sk} {l : List UInt8} {j : Nat} (h : Ra w B T U R C K l j W) (hj : j < 4) (x : Int) (hx : ((min 15 (K.c j (K.plc l j) + 1) : Nat) : Int) = x) : Ra w B T U R C K l (j + 1) (W.setCell ⟨R j, K.plc l j, none⟩ (.int .i64 x)) := by
  refine ⟨h.1.put hj x ?_ ?_, heap_other h.2 (fun e => ?_) _⟩
  · rw [← hx]; show (((if K.plc l j = K.plc l j then min 15 (K.c j (K.plc l j) + 1) else K.c j (K.plc l j)) : Nat) : Int) = _
    rw [if_pos rfl]
  · intro i hi
    show (((if i = K.plc l j then min 15 (K.c j i + 1) else K.c j i) : Nat) : Int) = _
    rw [if_neg hi]
  · obtain ⟨cur, hc, _⟩ := h.1.rows j hj
    rw [← e, h.2] at hc; simp at hc
set_option maxRecDepth 100000 in
set_option maxHeartbeats 8000000 in
theorem refAdd_is {w : World} {R C : Nat → Nat} {K : Sk} (s : IsRef w R C K) (hK : K.Ok) (key : ByteArray) (hs : key.size ≤ maxLen) (ha : K.a + 1 < 16777217) : Calls Try.prog 13 #[.agg (refC K R C), .string key] w fun e w' => AddBack w K key.data.toList e w' := by
  have hn := hK.n16
  have n0 : 0 < K.n := by omega
  have n1 : K.n ≤ 65536 := hn.2.1
  clear hn
  have b0 : Below w.heap.size w ((w.alloc (.cells (refC K R C) 27)).alloc (.cells #[.int .i64 0, .int .i64 0, .int .i64 0, .int .u64 0, .slice none 0 0, .slice none 0 0, .slice none 0 0, .slice none 0 0] 27)) := ((Below.refl _ _).alloc (Nat.le_refl _) _).alloc (by simp) _
  have O0 : ((w.alloc (.cells (refC K R C) 27)).alloc (.cells #[.int .i64 0, .int .i64 0, .int .i64 0, .int .u64 0, .slice none 0 0, .slice none 0 0, .slice none 0 0, .slice none 0 0] 27)).heap[w.heap.size]? = some (.cells (refC K R C) 27 (0, 0)) := heap_alloc (heap_new rfl) _
  have T0 : ((w.alloc (.cells (refC K R C) 27)).alloc (.cells #[.int .i64 0, .int .i64 0, .int .i64 0, .int .u64 0, .slice none 0 0, .slice none 0 0, .slice none 0 0, .slice none 0 0] 27)).heap[w.heap.size + 1]? = some (.cells #[.int .i64 0, .int .i64 0, .int .i64 0, .int .u64 0, .slice none 0 0, .slice none 0 0, .slice none 0 0, .slice none 0 0] 27 (0, 0)) := heap_new (by simp)
  have s0 : IsRef ((w.alloc (.cells (refC K R C) 27)).alloc (.cells #[.int .i64 0, .int .i64 0, .int .i64 0, .int .u64 0, .slice none 0 0, .slice none 0 0, .slice none 0 0, .slice none 0 0] 27)) R C K := s.below b0
  have c0 : ((w.alloc (.cells (refC K R C) 27)).alloc (.cells #[.int .i64 0, .int .i64 0, .int .i64 0, .int .u64 0, .slice none 0 0, .slice none 0 0, .slice none 0 0, .slice none 0 0] 27)).cell? ⟨w.heap.size, 0, none⟩ = some (.int .i64 (K.n : Nat)) := cell_of O0 0
  have c1 : ((w.alloc (.cells (refC K R C) 27)).alloc (.cells #[.int .i64 0, .int .i64 0, .int .i64 0, .int .u64 0, .slice none 0 0, .slice none 0 0, .slice none 0 0, .slice none 0 0] 27)).cell? ⟨w.heap.size, 1, none⟩ = some (.int .i64 (K.s : Nat)) := cell_of O0 1
  have c2 : ((w.alloc (.cells (refC K R C) 27)).alloc (.cells #[.int .i64 0, .int .i64 0, .int .i64 0, .int .u64 0, .slice none 0 0, .slice none 0 0, .slice none 0 0, .slice none 0 0] 27)).cell? ⟨w.heap.size, 2, none⟩ = some (.int .i64 (K.a : Nat)) := cell_of O0 2
  have c3 : ((w.alloc (.cells (refC K R C) 27)).alloc (.cells #[.int .i64 0, .int .i64 0, .int .i64 0, .int .u64 0, .slice none 0 0, .slice none 0 0, .slice none 0 0, .slice none 0 0] 27)).cell? ⟨w.heap.size, 3, none⟩ = some (.int .u64 K.seed) := cell_of O0 3
  have c4 : ((w.alloc (.cells (refC K R C) 27)).alloc (.cells #[.int .i64 0, .int .i64 0, .int .i64 0, .int .u64 0, .slice none 0 0, .slice none 0 0, .slice none 0 0, .slice none 0 0] 27)).cell? ⟨w.heap.size, 4, none⟩ = some (.slice (some ⟨R 0, 0, none⟩) K.n (C 0)) := cell_of O0 4
  have c5 : ((w.alloc (.cells (refC K R C) 27)).alloc (.cells #[.int .i64 0, .int .i64 0, .int .i64 0, .int .u64 0, .slice none 0 0, .slice none 0 0, .slice none 0 0, .slice none 0 0] 27)).cell? ⟨w.heap.size, 5, none⟩ = some (.slice (some ⟨R 1, 0, none⟩) K.n (C 1)) := cell_of O0 5
  have c6 : ((w.alloc (.cells (refC K R C) 27)).alloc (.cells #[.int .i64 0, .int .i64 0, .int .i64 0, .int .u64 0, .slice none 0 0, .slice none 0 0, .slice none 0 0, .slice none 0 0] 27)).cell? ⟨w.heap.size, 6, none⟩ = some (.slice (some ⟨R 2, 0, none⟩) K.n (C 2)) := cell_of O0 6
  have c7 : ((w.alloc (.cells (refC K R C) 27)).alloc (.cells #[.int .i64 0, .int .i64 0, .int .i64 0, .int .u64 0, .slice none 0 0, .slice none 0 0, .slice none 0 0, .slice none 0 0] 27)).cell? ⟨w.heap.size, 7, none⟩ = some (.slice (some ⟨R 3, 0, none⟩) K.n (C 3)) := cell_of O0 7
  go_enter Try.func13, Try.ntmps13
  go_upto_region 2 with (first | (go_at_call 31; refine (refCopy_is s0 hK).mono ?_; rintro e w1 ⟨R', C', rfl, b1, own1, ap1, r1⟩; have o1 : w1.heap[w.heap.size]? = _ := (b1.block _ (lt_of_heap O0)).trans O0; have d0 : w1.cell? ⟨w.heap.size, 0, none⟩ = some (.int .i64 (K.n : Nat)) := cell_of o1 0; have f0 : w1.frozen? ⟨w.heap.size, 0, none⟩ = false := frozen_of o1 0; have d1 : w1.cell? ⟨w.heap.size, 1, none⟩ = some (.int .i64 (K.s : Nat)) := cell_of o1 1; have f1 : w1.frozen? ⟨w.heap.size, 1, none⟩ = false := frozen_of o1 1; have d2 : w1.cell? ⟨w.heap.size, 2, none⟩ = some (.int .i64 (K.a : Nat)) := cell_of o1 2; have f2 : w1.frozen? ⟨w.heap.size, 2, none⟩ = false := frozen_of o1 2; have d3 : w1.cell? ⟨w.heap.size, 3, none⟩ = some (.int .u64 K.seed) := cell_of o1 3; have f3 : w1.frozen? ⟨w.heap.size, 3, none⟩ = false := frozen_of o1 3; have d4 : w1.cell? ⟨w.heap.size, 4, none⟩ = some (.slice (some ⟨R 0, 0, none⟩) K.n (C 0)) := cell_of o1 4; have f4 : w1.frozen? ⟨w.heap.size, 4, none⟩ = false := frozen_of o1 4; have d5 : w1.cell? ⟨w.heap.size, 5, none⟩ = some (.slice (some ⟨R 1, 0, none⟩) K.n (C 1)) := cell_of o1 5; have f5 : w1.frozen? ⟨w.heap.size, 5, none⟩ = false := frozen_of o1 5; have d6 : w1.cell? ⟨w.heap.size, 6, none⟩ = some (.slice (some ⟨R 2, 0, none⟩) K.n (C 2)) := cell_of o1 6; have f6 : w1.frozen? ⟨w.heap.size, 6, none⟩ = false := frozen_of o1 6; have d7 : w1.cell? ⟨w.heap.size, 7, none⟩ = some (.slice (some ⟨R 3, 0, none⟩) K.n (C 3)) := cell_of o1 7; have f7 : w1.frozen? ⟨w.heap.size, 7, none⟩ = false := frozen_of o1 7; unfold refC))
  refine wp_seen (Rh w w.heap.size (w.heap.size + 1) R' C' K (fun r i => (((K.up key.data.toList).c r i : Nat) : Int)) 0 0) (Rh.start _ b0 (Nat.le_refl _) (by omega) (by omega) O0 T0 b1 own1 ap1 r1) ?_
  clear b0 O0 T0 s0 c0 d0 f0 c1 d1 f1 c2 d2 f2 c3 d3 f3 c4 d4 f4 c5 d5 f5 c6 d6 f6 c7 d7 f7 o1 b1 own1 ap1 r1
  generalize w.heap.size + 1 = T
  generalize w.heap.size = B
  intro W M
  have c0 : W.cell? ⟨B, 0, none⟩ = some (.int .i64 (K.n : Nat)) := cell_of M.obj 0
  have c1 : W.cell? ⟨B, 1, none⟩ = some (.int .i64 (K.s : Nat)) := cell_of M.obj 1
  have c2 : W.cell? ⟨B, 2, none⟩ = some (.int .i64 (K.a : Nat)) := cell_of M.obj 2
  have c3 : W.cell? ⟨B, 3, none⟩ = some (.int .u64 K.seed) := cell_of M.obj 3
  have c4 : W.cell? ⟨B, 4, none⟩ = some (.slice (some ⟨R' 0, 0, none⟩) K.n (C' 0)) := cell_of M.obj 4
  have c5 : W.cell? ⟨B, 5, none⟩ = some (.slice (some ⟨R' 1, 0, none⟩) K.n (C' 1)) := cell_of M.obj 5
  have c6 : W.cell? ⟨B, 6, none⟩ = some (.slice (some ⟨R' 2, 0, none⟩) K.n (C' 2)) := cell_of M.obj 6
  have c7 : W.cell? ⟨B, 7, none⟩ = some (.slice (some ⟨R' 3, 0, none⟩) K.n (C' 3)) := cell_of M.obj 7
  go_upto_region 3 with (first | (go_at_call 23; refine (refPlaces_is (R := R') (C := C') hK key hs).mono ?_; rintro e w2 ⟨rfl, b2⟩))
  have bA : Below W.heap.size W (w2.alloc (.cells (plcC K key.data.toList) 56)) := b2.alloc b2.size _
  refine wp_seen (Ra w B T w2.heap.size R' C' K key.data.toList 0) ⟨M.below bA, heap_new rfl⟩ ?_
  clear bA b2 M c0 c1 c2 c3 c4 c5 c6 c7
  generalize w2.heap.size = U
  intro W M
  generalize hl : key.data.toList = l at *
  have hpl : ∀ r, K.plc l r < K.n := fun r => Sk.plc_lt hK l r
  go_wp2_with fail
  go_loopw [7] (fun x wr => ∃ j : Nat, j ≤ 4 ∧ x = .int .i64 (j : Nat) ∧ Ra w B T U R' C' K l j wr) (fun x _ => 5 - (intOf x).toNat)
  case atStart => exact ⟨0, by omega, rfl, M⟩
  case round =>
    obtain ⟨j, hj, rfl, v⟩ := hrel
    clear M
    by_cases hj4 : j < 4
    · have c4 : World.cell? _ ⟨B, 4 + j, none⟩ = some (.slice (some ⟨R' j, 0, none⟩) K.n (C' j)) := (cell_of v.1.obj _).trans (refC_at K R' C' j hj4)
      have c5 : World.cell? _ ⟨U, j, none⟩ = some (.int .i64 (K.plc l j : Nat)) := (cell_of v.2 _).trans (plcC_at K l j hj4)
      have hp := hpl j
      have c1 := (v.1.rows j hj4).cell hp
      rw [if_neg (by omega)] at c1
      have z1 := (v.1.rows j hj4).frozen (K.plc l j)
      have h15 := hK.small j (K.plc l j)
      have hput := fun x hx => Ra.put v hj4 x hx
      have hput := Lib.hid hput
      clear hpl
      generalize K.c j (K.plc l j) = y at *
      generalize K.plc l j = P at *
      go_upto_region 6 with fail
      go_region
      go_wp2_with fail
      go_roundw
      case rel =>
        have q := hput.out (if (y : Int) + 1 < 15 then (y : Int) + 1 else 15) (by split <;> omega)
        exact ⟨j + 1, by omega, by go_num, q.1.drew, q.2⟩
      all_goals (simp [intOf]; omega)
    · obtain rfl : j = 4 := by omega
      have c2 : wr.cell? ⟨B, 2, none⟩ = some (.int .i64 (K.a : Nat)) := cell_of v.1.obj 2
      have z2 : wr.frozen? ⟨B, 2, none⟩ = false := frozen_of v.1.obj 2
      go_upto_region 8 with fail
      refine wp_seen (Rf w B T R' C' (K.up l)) ⟨v.1.bel.setCell v.1.hB _, v.1.hB, v.1.hT, v.1.ne, heap_set v.1.obj _, heap_other v.1.res (Ne.symm v.1.ne) _, v.1.own, v.1.apart, fun r hr => ((v.1.ref (L := K.up l) rfl (fun _ _ => rfl)) r hr).other (Ne.symm (v.1.neB hr).1) _⟩ ?_
      clear c2 z2 v hpl
      intro W v
      have hU := hK.up l ha
      have hm := hK.most
      have c0 : W.cell? ⟨B, 0, none⟩ = some (.int .i64 (K.n : Nat)) := cell_of v.obj 0
      have c1 : W.cell? ⟨B, 1, none⟩ = some (.int .i64 (K.s : Nat)) := cell_of v.obj 1
      have c2 : W.cell? ⟨B, 2, none⟩ = some (.int .i64 ((K.a : Int) + 1)) := cell_of v.obj 2
      have c3 : W.cell? ⟨B, 3, none⟩ = some (.int .u64 K.seed) := cell_of v.obj 3
      have c4 : W.cell? ⟨B, 4, none⟩ = some (.slice (some ⟨R' 0, 0, none⟩) K.n (C' 0)) := cell_of v.obj 4
      have c5 : W.cell? ⟨B, 5, none⟩ = some (.slice (some ⟨R' 1, 0, none⟩) K.n (C' 1)) := cell_of v.obj 5
      have c6 : W.cell? ⟨B, 6, none⟩ = some (.slice (some ⟨R' 2, 0, none⟩) K.n (C' 2)) := cell_of v.obj 6
      have c7 : W.cell? ⟨B, 7, none⟩ = some (.slice (some ⟨R' 3, 0, none⟩) K.n (C' 3)) := cell_of v.obj 7
      have ltB := lt_of_heap v.obj
      obtain ne1 := v.ne
      by_cases hf : 0 < K.s ∧ K.a + 1 = K.s
      · have ef : K.full = true := by unfold Sk.full; simpa using hf
        obtain ⟨hf1, hf2⟩ := hf
        have hf3 : (K.a : Int) + 1 = K.s := by omega
        have eU : refC (K.up l) R' C' = #[.int .i64 (K.n : Nat), .int .i64 (K.s : Nat), .int .i64 ((K.a : Int) + 1), .int .u64 K.seed, .slice (some ⟨R' 0, 0, none⟩) K.n (C' 0), .slice (some ⟨R' 1, 0, none⟩) K.n (C' 1), .slice (some ⟨R' 2, 0, none⟩) K.n (C' 2), .slice (some ⟨R' 3, 0, none⟩) K.n (C' 3)] := rfl
        have HC := refHalve_is (R := R') (C := C') v.ref hU
        rw [eU] at HC
        clear eU
        go_upto_region 9 with fail
        clear hf1 hf2 hf3 hU hm
        go_wp2_with (first | (go_at_call 15; refine HC.mono ?_; clear HC; rintro e w9 ⟨R2, C2, rfl, b9, own9, ap9, r9⟩; have t9 : w9.heap[T]? = _ := (b9.block _ (lt_of_heap v.res)).trans v.res; have d0 : w9.cell? ⟨T, 0, none⟩ = some (.int .i64 0) := cell_of t9 0; have f0 : w9.frozen? ⟨T, 0, none⟩ = false := frozen_of t9 0; have d1 : w9.cell? ⟨T, 1, none⟩ = some (.int .i64 0) := cell_of t9 1; have f1 : w9.frozen? ⟨T, 1, none⟩ = false := frozen_of t9 1; have d2 : w9.cell? ⟨T, 2, none⟩ = some (.int .i64 0) := cell_of t9 2; have f2 : w9.frozen? ⟨T, 2, none⟩ = false := frozen_of t9 2; have d3 : w9.cell? ⟨T, 3, none⟩ = some (.int .u64 0) := cell_of t9 3; have f3 : w9.frozen? ⟨T, 3, none⟩ = false := frozen_of t9 3; have d4 : w9.cell? ⟨T, 4, none⟩ = some (.slice none 0 0) := cell_of t9 4; have f4 : w9.frozen? ⟨T, 4, none⟩ = false := frozen_of t9 4; have d5 : w9.cell? ⟨T, 5, none⟩ = some (.slice none 0 0) := cell_of t9 5; have f5 : w9.frozen? ⟨T, 5, none⟩ = false := frozen_of t9 5; have d6 : w9.cell? ⟨T, 6, none⟩ = some (.slice none 0 0) := cell_of t9 6; have f6 : w9.frozen? ⟨T, 6, none⟩ = false := frozen_of t9 6; have d7 : w9.cell? ⟨T, 7, none⟩ = some (.slice none 0 0) := cell_of t9 7; have f7 : w9.frozen? ⟨T, 7, none⟩ = false := frozen_of t9 7; unfold refC))
        refine post_seen (Rd w T R2 C2 (K.up l).half) (Rd.of (v.bel.trans (b9.mono v.bel.size)) v.hT t9 (fun r hr => Nat.le_trans v.bel.size (own9 r hr)) ap9 r9) ?_
        clear c0 d0 f0 c1 d1 f1 c2 d2 f2 c3 d3 f3 c4 d4 f4 c5 d5 f5 c6 d6 f6 c7 d7 f7 v t9 b9 own9 ap9 r9
        rintro W ⟨b9, o9, own9, ap9, r9⟩
        have c0 : W.cell? ⟨T, 0, none⟩ = some (.int .i64 ((K.up l).half.n : Nat)) := cell_of o9 0
        have c1 : W.cell? ⟨T, 1, none⟩ = some (.int .i64 ((K.up l).half.s : Nat)) := cell_of o9 1
        have c2 : W.cell? ⟨T, 2, none⟩ = some (.int .i64 ((K.up l).half.a : Nat)) := cell_of o9 2
        have c3 : W.cell? ⟨T, 3, none⟩ = some (.int .u64 (K.up l).half.seed) := cell_of o9 3
        have c4 : W.cell? ⟨T, 4, none⟩ = some (.slice (some ⟨R2 0, 0, none⟩) (K.up l).half.n (C2 0)) := cell_of o9 4
        have c5 : W.cell? ⟨T, 5, none⟩ = some (.slice (some ⟨R2 1, 0, none⟩) (K.up l).half.n (C2 1)) := cell_of o9 5
        have c6 : W.cell? ⟨T, 6, none⟩ = some (.slice (some ⟨R2 2, 0, none⟩) (K.up l).half.n (C2 2)) := cell_of o9 6
        have c7 : W.cell? ⟨T, 7, none⟩ = some (.slice (some ⟨R2 3, 0, none⟩) (K.up l).half.n (C2 3)) := cell_of o9 7
        have ea : K.add l = (K.up l).half := by unfold Sk.add; rw [ef]; rfl
        refine bodyPost_ret (v := .tuple #[.agg (refC (K.up l).half R2 C2), .bool true]) (by simp [results, Try.results13, go_sem, c0, c1, c2, c3, c4, c5, c6, c7, refC]) rfl ⟨R2, C2, ?_, b9, own9, ap9, ?_⟩
        · rw [hl, ea, ef]
        · rw [hl, ea]; exact r9
      · have ef : K.full = false := by unfold Sk.full; simpa using hf
        have hf2 : ((decide ((0 : Int) < K.s)) && ((K.a : Int) + 1 == K.s)) = false := by
          rw [Bool.and_eq_false_iff]; by_cases q : 0 < K.s
          · right; rw [beq_eq_false_iff_ne]; omega
          · left; rw [decide_eq_false_iff_not]; omega
        have d0 : W.cell? ⟨T, 0, none⟩ = some (.int .i64 0) := cell_of v.res 0
        have d1 : W.cell? ⟨T, 1, none⟩ = some (.int .i64 0) := cell_of v.res 1
        have d2 : W.cell? ⟨T, 2, none⟩ = some (.int .i64 0) := cell_of v.res 2
        have d3 : W.cell? ⟨T, 3, none⟩ = some (.int .u64 0) := cell_of v.res 3
        have d4 : W.cell? ⟨T, 4, none⟩ = some (.slice none 0 0) := cell_of v.res 4
        have d5 : W.cell? ⟨T, 5, none⟩ = some (.slice none 0 0) := cell_of v.res 5
        have d6 : W.cell? ⟨T, 6, none⟩ = some (.slice none 0 0) := cell_of v.res 6
        have d7 : W.cell? ⟨T, 7, none⟩ = some (.slice none 0 0) := cell_of v.res 7
        have f0 : W.frozen? ⟨T, 0, none⟩ = false := frozen_of v.res 0
        have f1 : W.frozen? ⟨T, 1, none⟩ = false := frozen_of v.res 1
        have f2 : W.frozen? ⟨T, 2, none⟩ = false := frozen_of v.res 2
        have f3 : W.frozen? ⟨T, 3, none⟩ = false := frozen_of v.res 3
        have f4 : W.frozen? ⟨T, 4, none⟩ = false := frozen_of v.res 4
        have f5 : W.frozen? ⟨T, 5, none⟩ = false := frozen_of v.res 5
        have f6 : W.frozen? ⟨T, 6, none⟩ = false := frozen_of v.res 6
        have f7 : W.frozen? ⟨T, 7, none⟩ = false := frozen_of v.res 7
        go_wp2_with fail
        all_goals
          have vd := v.done
          refine post_seen (Rd w T R' C' (K.up l)) vd ?_
          clear c0 d0 f0 c1 d1 f1 c2 d2 f2 c3 d3 f3 c4 d4 f4 c5 d5 f5 c6 d6 f6 c7 d7 f7 v vd
          rintro W ⟨b9, o9, own9, ap9, r9⟩
          have c0 : W.cell? ⟨T, 0, none⟩ = some (.int .i64 ((K.up l).n : Nat)) := cell_of o9 0
          have c1 : W.cell? ⟨T, 1, none⟩ = some (.int .i64 ((K.up l).s : Nat)) := cell_of o9 1
          have c2 : W.cell? ⟨T, 2, none⟩ = some (.int .i64 ((K.up l).a : Nat)) := cell_of o9 2
          have c3 : W.cell? ⟨T, 3, none⟩ = some (.int .u64 (K.up l).seed) := cell_of o9 3
          have c4 : W.cell? ⟨T, 4, none⟩ = some (.slice (some ⟨R' 0, 0, none⟩) (K.up l).n (C' 0)) := cell_of o9 4
          have c5 : W.cell? ⟨T, 5, none⟩ = some (.slice (some ⟨R' 1, 0, none⟩) (K.up l).n (C' 1)) := cell_of o9 5
          have c6 : W.cell? ⟨T, 6, none⟩ = some (.slice (some ⟨R' 2, 0, none⟩) (K.up l).n (C' 2)) := cell_of o9 6
          have c7 : W.cell? ⟨T, 7, none⟩ = some (.slice (some ⟨R' 3, 0, none⟩) (K.up l).n (C' 3)) := cell_of o9 7
          have ea : K.add l = K.up l := by unfold Sk.add; rw [ef]; rfl
          refine bodyPost_ret (v := .tuple #[.agg (refC (K.up l) R' C'), .bool false]) (by simp [results, Try.results13, go_sem, c0, c1, c2, c3, c4, c5, c6, c7, refC]) rfl ⟨R', C', ?_, b9, own9, ap9, ?_⟩
          · rw [hl, ea, ef]
          · rw [hl, ea]; exact r9
end Go.Proofs.Ytffniljefbpoiaa
