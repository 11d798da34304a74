/-
  The contracts of the reference's Places, Count and Same.
-/
import Derived.Test.YtffniljefbpoiaaI
namespace Go.Proofs.Ytffniljefbpoiaa
open Go.ChangeShapes Go.WideShapes Go.ChangeAt Go.RowKit
set_option linter.unusedVariables false

/-- The cells of a reference sketch. -/
def refC (K : Sk) (R C : Nat → Nat) : Array Value := #[.int .i64 (K.n : Nat), .int .i64 (K.s : Nat), .int .i64 (K.a : Nat), .int .u64 K.seed, .slice (some ⟨R 0, 0, none⟩) K.n (C 0), .slice (some ⟨R 1, 0, none⟩) K.n (C 1), .slice (some ⟨R 2, 0, none⟩) K.n (C 2), .slice (some ⟨R 3, 0, none⟩) K.n (C 3)]
/-- The rows of a reference sketch. -/
def IsRef (w : World) (R C : Nat → Nat) (K : Sk) : Prop := ∀ r, r < 4 → Nums w .i64 3 (R r) K.n (C r) (fun i => ((K.c r i : Nat) : Int))
theorem IsRef.keep {w w' : World} {R C : Nat → Nat} {K : Sk} {S : List Nat} (s : IsRef w R C K) (k : Keeps S w w') (h : ∀ r, r < 4 → R r ∉ S) : IsRef w' R C K := fun r hr => (s r hr).keep k (h r hr)
theorem IsRef.below {w w' : World} {R C : Nat → Nat} {K : Sk} (s : IsRef w R C K) (k : Below w.heap.size w w') : IsRef w' R C K := s.keep (Keeps.of_below (S := []) k) (by simp)
/-- A sketch and a reference share no block. -/
theorem IsRef.apart {w : World} {R C G Q : Nat → Nat} {K L : Sk} {p : Nat} (s : IsRef w R C K) (t : IsSk w p G Q L) : ∀ r, r < 4 → R r ∉ blocks p G := by
  intro r hr h
  obtain ⟨cur, hc, _⟩ := s r hr
  rcases mem_blocks.1 h with e | ⟨q, hq, e⟩
  · rw [e, t.obj] at hc; simp at hc
  · obtain ⟨cur2, hc2, _⟩ := t.rows q hq
    rw [e, hc2] at hc; simp at hc
/-- What the reference's Places holds on to. -/
structure RP (w : World) (B T U : Nat) (K : Sk) (R C : Nat → Nat) (x0 x1 x2 x3 y0 y1 y2 y3 : Int) (W : World) : Prop where
  bel : Below w.heap.size w W
  hB : w.heap.size ≤ B
  hT : w.heap.size ≤ T
  hU : w.heap.size ≤ U
  ne : U ≠ B ∧ U ≠ T ∧ T ≠ B
  obj : W.heap[B]? = some (.cells (refC K R C) 27 (0, 0))
  res : W.heap[T]? = some (.cells #[.int .i64 x0, .int .i64 x1, .int .i64 x2, .int .i64 x3] 56 (0, 0))
  out : W.heap[U]? = some (.cells #[.int .i64 y0, .int .i64 y1, .int .i64 y2, .int .i64 y3] 56 (0, 0))
set_option maxRecDepth 100000 in
set_option maxHeartbeats 4000000 in
theorem refPlaces_is {w : World} {R C : Nat → Nat} {K : Sk} (hK : K.Ok) (key : ByteArray) (hs : key.size ≤ maxLen) :
    Calls Try.prog 23 #[.agg (refC K R C), .string key] w fun e w' => e = .returned (.agg #[.int .i64 (K.plc key.data.toList 0 : Nat), .int .i64 (K.plc key.data.toList 1 : Nat), .int .i64 (K.plc key.data.toList 2 : Nat), .int .i64 (K.plc key.data.toList 3 : Nat)]) ∧ Below w.heap.size w w' := by
  unfold refC
  have hn := hK.n16
  have n0 : 16 ≤ K.n := hn.1
  have n1 : K.n ≤ 65536 := hn.2.1
  clear hn
  obtain ⟨S0, S1⟩ : Word (sumI K.seed false key.data.toList) := mixI_word _
  have law : ∀ r, (((sumI K.seed false key.data.toList).toNat / 65536 ^ r % K.n : Nat) : Int) = sumI K.seed false key.data.toList / ((65536 ^ r : Nat) : Int) % (K.n : Int) := fun r => by
    obtain ⟨T, hT⟩ := Int.eq_ofNat_of_zero_le S0
    rw [hT]; simp
  have l0 : ((K.plc key.data.toList 0 : Nat) : Int) = _ := law 0
  have l1 : ((K.plc key.data.toList 1 : Nat) : Int) = _ := law 1
  have l2 : ((K.plc key.data.toList 2 : Nat) : Int) = _ := law 2
  have l3 : ((K.plc key.data.toList 3 : Nat) : Int) = _ := law 3
  clear law
  rw [show ((65536 ^ 0 : Nat) : Int) = 1 from rfl, Int.ediv_one] at l0
  rw [show ((65536 ^ 1 : Nat) : Int) = 65536 from rfl] at l1
  rw [show ((65536 ^ 2 : Nat) : Int) = 65536 * 65536 from rfl, ← Int.ediv_ediv_of_nonneg (by omega)] at l2
  rw [show ((65536 ^ 3 : Nat) : Int) = 65536 * 65536 * 65536 from rfl, ← Int.ediv_ediv_of_nonneg (by omega), ← Int.ediv_ediv_of_nonneg (by omega)] at l3
  have p0 := Lib.hid (show wrap64 (sumI K.seed false key.data.toList % (K.n : Int)) = ((K.plc key.data.toList 0 : Nat) : Int) by rw [← l0]; have := Sk.plc_lt hK key.data.toList 0; exact wrap_in (by omega))
  have p1 := Lib.hid (show wrap64 (sumI K.seed false key.data.toList / 65536 % (K.n : Int)) = ((K.plc key.data.toList 1 : Nat) : Int) by rw [← l1]; have := Sk.plc_lt hK key.data.toList 1; exact wrap_in (by omega))
  have p2 := Lib.hid (show wrap64 (sumI K.seed false key.data.toList / 65536 / 65536 % (K.n : Int)) = ((K.plc key.data.toList 2 : Nat) : Int) by rw [← l2]; have := Sk.plc_lt hK key.data.toList 2; exact wrap_in (by omega))
  have p3 := Lib.hid (show wrap64 (sumI K.seed false key.data.toList / 65536 / 65536 / 65536 % (K.n : Int)) = ((K.plc key.data.toList 3 : Nat) : Int) by rw [← l3]; have := Sk.plc_lt hK key.data.toList 3; exact wrap_in (by omega))
  clear l0 l1 l2 l3
  have M0 : RP w w.heap.size (w.heap.size + 1) (w.heap.size + 1 + 1) K R C 0 0 0 0 0 0 0 0 (((w.alloc (.cells (refC K R C) 27)).alloc (.cells #[.int .i64 0, .int .i64 0, .int .i64 0, .int .i64 0] 56)).alloc (.cells #[.int .i64 0, .int .i64 0, .int .i64 0, .int .i64 0] 56)) :=
    ⟨(((Below.refl _ _).alloc (Nat.le_refl _) _).alloc (by simp) _).alloc (by simp <;> omega) _, by omega, by omega, by omega, by omega, heap_alloc (heap_alloc (heap_new rfl) _) _, heap_alloc (heap_new (by simp)) _, heap_new (by simp)⟩
  go_enter Try.func23, Try.ntmps23
  go_wp2_with (first | (go_at_call 34; refine (refsum_any K.seed hK.seed false key hs _).mono ?_; rintro e w1 ⟨rfl, rfl⟩))
  generalize sumI K.seed false key.data.toList = S at *
  refine wp_seen (RP w w.heap.size (w.heap.size + 1) (w.heap.size + 1 + 1) K R C 0 0 0 0 0 0 0 0) M0 ?_
  clear M0
  generalize w.heap.size + 1 + 1 = U
  generalize w.heap.size + 1 = T
  generalize w.heap.size = B
  intro W M
  have d0 : W.cell? ⟨B, 0, none⟩ = some (.int .i64 (K.n : Nat)) := cell_of M.obj 0
  have y0 : W.cell? ⟨U, 0, none⟩ = some (.int .i64 0) := cell_of M.out 0
  have z0 : W.frozen? ⟨U, 0, none⟩ = false := frozen_of M.out 0
  have q0 : W.cell? ⟨T, 0, none⟩ = some (.int .i64 0) := cell_of M.res 0
  have f0 : W.frozen? ⟨T, 0, none⟩ = false := frozen_of M.res 0
  have y1 : W.cell? ⟨U, 1, none⟩ = some (.int .i64 0) := cell_of M.out 1
  have z1 : W.frozen? ⟨U, 1, none⟩ = false := frozen_of M.out 1
  have q1 : W.cell? ⟨T, 1, none⟩ = some (.int .i64 0) := cell_of M.res 1
  have f1 : W.frozen? ⟨T, 1, none⟩ = false := frozen_of M.res 1
  have y2 : W.cell? ⟨U, 2, none⟩ = some (.int .i64 0) := cell_of M.out 2
  have z2 : W.frozen? ⟨U, 2, none⟩ = false := frozen_of M.out 2
  have q2 : W.cell? ⟨T, 2, none⟩ = some (.int .i64 0) := cell_of M.res 2
  have f2 : W.frozen? ⟨T, 2, none⟩ = false := frozen_of M.res 2
  have y3 : W.cell? ⟨U, 3, none⟩ = some (.int .i64 0) := cell_of M.out 3
  have z3 : W.frozen? ⟨U, 3, none⟩ = false := frozen_of M.out 3
  have q3 : W.cell? ⟨T, 3, none⟩ = some (.int .i64 0) := cell_of M.res 3
  have f3 : W.frozen? ⟨T, 3, none⟩ = false := frozen_of M.res 3
  obtain ⟨ne1, ne2, ne3⟩ := M.ne
  refine wp_loop_rounds 5 ?_
  rw [rounds_succ]
  go_wp2_with fail
  rw [rounds_succ]
  go_wp2_with fail
  rw [rounds_succ]
  go_wp2_with fail
  rw [rounds_succ]
  go_wp2_with fail
  rw [rounds_succ]
  go_wp2_with fail
  refine post_seen (fun W' => Below w.heap.size w W' ∧ W'.heap[T]? = some (.cells #[.int .i64 (K.plc key.data.toList 0 : Nat), .int .i64 (K.plc key.data.toList 1 : Nat), .int .i64 (K.plc key.data.toList 2 : Nat), .int .i64 (K.plc key.data.toList 3 : Nat)] 56 (0, 0))) ⟨(((((((M.bel.setCell M.hU _).setCell M.hU _).setCell M.hU _).setCell M.hU _).setCell M.hT _).setCell M.hT _).setCell M.hT _).setCell M.hT _, ?_⟩ ?_
  · rw [← p0.out, ← p1.out, ← p2.out, ← p3.out]
    exact heap_set (heap_set (heap_set (heap_set (heap_other (heap_other (heap_other (heap_other M.res (Ne.symm ne2) _) (Ne.symm ne2) _) (Ne.symm ne2) _) (Ne.symm ne2) _) _) _) _) _
  · clear y0 y1 y2 y3 z0 z1 z2 z3 q0 q1 q2 q3 f0 f1 f2 f3 d0 M W
    rintro W ⟨b0, h0⟩
    have y0 : W.cell? ⟨T, 0, none⟩ = some (.int .i64 (K.plc key.data.toList 0 : Nat)) := cell_of h0 0
    have y1 : W.cell? ⟨T, 1, none⟩ = some (.int .i64 (K.plc key.data.toList 1 : Nat)) := cell_of h0 1
    have y2 : W.cell? ⟨T, 2, none⟩ = some (.int .i64 (K.plc key.data.toList 2 : Nat)) := cell_of h0 2
    have y3 : W.cell? ⟨T, 3, none⟩ = some (.int .i64 (K.plc key.data.toList 3 : Nat)) := cell_of h0 3
    exact bodyPost_ret (v := .agg #[.int .i64 (K.plc key.data.toList 0 : Nat), .int .i64 (K.plc key.data.toList 1 : Nat), .int .i64 (K.plc key.data.toList 2 : Nat), .int .i64 (K.plc key.data.toList 3 : Nat)]) (by simp [results, Try.results23, go_sem, y0, y1, y2, y3]) rfl ⟨rfl, b0⟩
set_option maxRecDepth 100000 in
theorem same_is {w : World} {g h n c d : Nat} {f : Nat → Int} (s : Nums w .i64 3 g n c f) (t : Nums w .i64 3 h n d f) (hn : n ≤ 65536) :
    Calls Try.prog 25 #[.slice (some ⟨g, 0, none⟩) n c, .slice (some ⟨h, 0, none⟩) n d] w fun e w' => e = .returned (.bool true) ∧ Below w.heap.size w w' := by
  go_enter Try.func25, Try.ntmps25
  go_wp2_with fail
  go_loopw [5] (fun x wr => ∃ k : Nat, k ≤ n ∧ x = .int .i64 (k : Nat) ∧ Below w.heap.size w wr ∧ Nums wr .i64 3 g n c f ∧ Nums wr .i64 3 h n d f) (fun x _ => n + 1 - (intOf x).toNat)
  case atStart => exact ⟨0, by omega, rfl, Below.refl _ _, s, t⟩
  case round =>
    obtain ⟨k, hk, rfl, b, s2, t2⟩ := hrel
    by_cases hkn : k < n
    · have c1 := s2.cell hkn
      have c2 := t2.cell hkn
      go_upto_region 6 with fail
      go_region
      go_wp2_with fail
      go_roundw
      case rel => exact ⟨k + 1, by omega, by go_num, b.drew, s2, t2⟩
      all_goals (simp [intOf]; omega)
    · go_wp2_with fail
      go_ret
      exact ⟨rfl, b⟩
theorem refC_at (K : Sk) (R C : Nat → Nat) (j : Nat) (hj : j < 4) : (refC K R C)[4 + j]? = some (.slice (some ⟨R j, 0, none⟩) K.n (C j)) := by
  have : j = 0 ∨ j = 1 ∨ j = 2 ∨ j = 3 := by omega
  rcases this with rfl | rfl | rfl | rfl <;> rfl
/-- The cells of a key's places. -/
def plcC (K : Sk) (l : List UInt8) : Array Value := #[.int .i64 (K.plc l 0 : Nat), .int .i64 (K.plc l 1 : Nat), .int .i64 (K.plc l 2 : Nat), .int .i64 (K.plc l 3 : Nat)]
theorem plcC_at (K : Sk) (l : List UInt8) (j : Nat) (hj : j < 4) : (plcC K l)[j]? = some (.int .i64 (K.plc l j : Nat)) := by
  have : j = 0 ∨ j = 1 ∨ j = 2 ∨ j = 3 := by omega
  rcases this with rfl | rfl | rfl | rfl <;> rfl
/-- What the reference's Count holds on to. -/
structure RQ (w : World) (B T : Nat) (K : Sk) (l : List UInt8) (R C : Nat → Nat) (W : World) : Prop where
  bel : Below w.heap.size w W
  obj : W.heap[B]? = some (.cells (refC K R C) 27 (0, 0))
  plc : W.heap[T]? = some (.cells (plcC K l) 56 (0, 0))
  ref : IsRef W R C K
/-- A sketch's count while it is taken. -/
def Sk.cntTo (K : Sk) (l : List UInt8) : Nat → Nat
  | 0 => 15
  | j + 1 => min (K.cntTo l j) (K.c j (K.plc l j))
set_option maxRecDepth 100000 in
theorem refCount_is {w : World} {R C : Nat → Nat} {K : Sk} (s : IsRef w R C K) (hK : K.Ok) (key : ByteArray) (hs : key.size ≤ maxLen) :
    Calls Try.prog 33 #[.agg (refC K R C), .string key] w fun e w' => e = .returned (.int .i64 (K.cnt key.data.toList : Nat)) ∧ Below w.heap.size w w' := by
  have hn := hK.n16
  have n0 : 16 ≤ K.n := hn.1
  have n1 : K.n ≤ 65536 := hn.2.1
  clear hn
  unfold refC
  go_enter Try.func33, Try.ntmps33
  go_wp2_with (first | (go_at_call 23; refine (refPlaces_is (R := R) (C := C) hK key hs).mono ?_; rintro e w1 ⟨rfl, b1⟩))
  have B0 : Below w.heap.size w (w.alloc (.cells (refC K R C) 27)) := (Below.refl _ _).alloc (Nat.le_refl _) _
  have lt0 : w.heap.size < (w.alloc (.cells (refC K R C) 27)).heap.size := by simp
  refine wp_seen (RQ w w.heap.size w1.heap.size K key.data.toList R C) ⟨(B0.trans (b1.mono B0.size)).alloc (B0.trans (b1.mono B0.size)).size _, heap_alloc ((b1.block _ lt0).trans (heap_new rfl)) _, heap_new rfl, (s.below B0).below b1 |>.below ((Below.refl _ _).alloc (Nat.le_refl _) _)⟩ ?_
  clear b1 B0 lt0
  generalize w1.heap.size = T
  generalize w.heap.size = B
  intro W M
  generalize hl : key.data.toList = l at *
  have hpl : ∀ r, K.plc l r < K.n := fun r => Sk.plc_lt hK l r
  go_loopw [6, 7] (fun y x wr => ∃ j : Nat, j ≤ 4 ∧ x = .int .i64 (j : Nat) ∧ y = .int .i64 (K.cntTo l j : Nat) ∧ RQ w B T K l R C wr) (fun _ x _ => 5 - (intOf x).toNat)
  case atStart => exact ⟨0, by omega, rfl, rfl, M⟩
  case round =>
    obtain ⟨j, hj, rfl, rfl, v⟩ := hrel
    clear M
    by_cases hj4 : j < 4
    · have c1 : wr.cell? ⟨B, 4 + j, none⟩ = some (.slice (some ⟨R j, 0, none⟩) K.n (C j)) := (cell_of v.obj _).trans (refC_at K R C j hj4)
      have c2 : wr.cell? ⟨T, j, none⟩ = some (.int .i64 (K.plc l j : Nat)) := (cell_of v.plc _).trans (plcC_at K l j hj4)
      have hp := hpl j
      have c3 := (v.ref j hj4).cell hp
      have c15 := hK.small j (K.plc l j)
      have e0 : K.cntTo l (j + 1) = min (K.cntTo l j) (K.c j (K.plc l j)) := rfl
      have e1 := Lib.hid e0
      clear e0 hpl
      generalize K.cntTo l j = y at *
      generalize K.c j (K.plc l j) = z at *
      generalize K.plc l j = x at *
      go_upto_region 6 with fail
      go_region
      go_wp2_with fail
      go_roundw
      case rel => exact ⟨j + 1, by omega, by go_num, by rw [e1.out]; congr 1; split <;> omega, ⟨v.bel.drew, v.obj, v.plc, v.ref⟩⟩
      all_goals (simp [intOf]; omega)
    · obtain rfl : j = 4 := by omega
      go_wp2_with fail
      go_ret
      exact ⟨by rw [hl]; rfl, v.bel⟩
end Go.Proofs.Ytffniljefbpoiaa
