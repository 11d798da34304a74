/-
  The contract of the reference's Halve.
-/
import Derived.Test.YtffniljefbpoiaaK
namespace Go.Proofs.Ytffniljefbpoiaa
open Go.ChangeShapes Go.WideShapes Go.ChangeAt Go.RowKit
set_option linter.unusedVariables false

/-- A reference sketch of one's own while its rows are changed: rows before a row, and this row up to a place. -/
structure Rh (w : World) (B T : Nat) (R C : Nat → Nat) (K : Sk) (F : Nat → Nat → Int) (j k : Nat) (W : World) : Prop where
  bel : Below w.heap.size w W
  hB : w.heap.size ≤ B
  hT : w.heap.size ≤ T
  ne : B ≠ T
  obj : W.heap[B]? = some (.cells (refC K R C) 27 (0, 0))
  res : W.heap[T]? = some (.cells #[.int .i64 0, .int .i64 0, .int .i64 0, .int .u64 0, .slice none 0 0, .slice none 0 0, .slice none 0 0, .slice none 0 0] 27 (0, 0))
  own : ∀ r, r < 4 → w.heap.size ≤ R r
  apart : ∀ r s, r < 4 → s < 4 → r ≠ s → R r ≠ R s
  rows : ∀ r, r < 4 → Nums W .i64 3 (R r) K.n (C r) (fun i => if r < j ∨ (r = j ∧ i < k) then F r i else ((K.c r i : Nat) : Int))
theorem Rh.neB {w W : World} {B T : Nat} {R C : Nat → Nat} {K : Sk} {F : Nat → Nat → Int} {j k : Nat} (h : Rh w B T R C K F j k W) {r : Nat} (hr : r < 4) : B ≠ R r ∧ T ≠ R r := by
  obtain ⟨cur, hc, _⟩ := h.rows r hr
  refine ⟨fun e => ?_, fun e => ?_⟩
  · rw [← e, h.obj] at hc; simp at hc
  · rw [← e, h.res] at hc; simp at hc
theorem Rh.word {w W : World} {B T : Nat} {R C : Nat → Nat} {K : Sk} {F : Nat → Nat → Int} {j k : Nat} (h : Rh w B T R C K F j k W) (hj : j < 4) (x : Int) (hx : F j k = x) : Rh w B T R C K F j (k + 1) (W.setCell ⟨R j, k, none⟩ (.int .i64 x)) := by
  refine ⟨h.bel.setCell (h.own j hj) _, h.hB, h.hT, h.ne, heap_other h.obj (h.neB hj).1 _, heap_other h.res (h.neB hj).2 _, h.own, h.apart, fun r hr => ?_⟩
  by_cases e : r = j
  · subst e
    refine (h.rows r hr).set k x ?_ ?_
    · rw [if_pos (by omega)]; exact hx
    · intro i hi
      by_cases q : i < k
      · rw [if_pos (by omega), if_pos (by omega)]
      · rw [if_neg (by omega), if_neg (by omega)]
  · refine ((h.rows r hr).other (h.apart r j hr hj e) _).congr fun i hi => ?_
    by_cases q : r < j
    · rw [if_pos (.inl q), if_pos (.inl q)]
    · rw [if_neg (by omega), if_neg (by omega)]
theorem Rh.row {w W : World} {B T : Nat} {R C : Nat → Nat} {K : Sk} {F : Nat → Nat → Int} {j : Nat} (h : Rh w B T R C K F j K.n W) : Rh w B T R C K F (j + 1) 0 W :=
  ⟨h.bel, h.hB, h.hT, h.ne, h.obj, h.res, h.own, h.apart, fun r hr => (h.rows r hr).congr fun i hi => by
    by_cases q : r < j ∨ r = j
    · rw [if_pos (by omega), if_pos (by omega)]
    · rw [if_neg (by omega), if_neg (by omega)]⟩
theorem Rh.put {w W : World} {B T : Nat} {R C : Nat → Nat} {K : Sk} {F : Nat → Nat → Int} {j q : Nat} (h : Rh w B T R C K F j 0 W) (hj : j < 4) (x : Int) (hx : F j q = x) (ho : ∀ i, i ≠ q → F j i = ((K.c j i : Nat) : Int)) : Rh w B T R C K F (j + 1) 0 (W.setCell ⟨R j, q, none⟩ (.int .i64 x)) := by
  refine ⟨h.bel.setCell (h.own j hj) _, h.hB, h.hT, h.ne, heap_other h.obj (h.neB hj).1 _, heap_other h.res (h.neB hj).2 _, h.own, h.apart, fun r hr => ?_⟩
  by_cases e : r = j
  · subst e
    refine (h.rows r hr).set q x ?_ ?_
    · rw [if_pos (by omega)]; exact hx
    · intro i hi
      rw [if_pos (by omega), if_neg (by omega)]
      exact ho i hi
  · refine ((h.rows r hr).other (h.apart r j hr hj e) _).congr fun i hi => ?_
    by_cases q : r < j
    · rw [if_pos (by omega), if_pos (by omega)]
    · rw [if_neg (by omega), if_neg (by omega)]
theorem Rh.drew {w W : World} {B T : Nat} {R C : Nat → Nat} {K : Sk} {F : Nat → Nat → Int} {j k : Nat} (h : Rh w B T R C K F j k W) : Rh w B T R C K F j k W.drew := ⟨h.bel.drew, h.hB, h.hT, h.ne, h.obj, h.res, h.own, h.apart, h.rows⟩
theorem Rh.below {w W W' : World} {B T : Nat} {R C : Nat → Nat} {K : Sk} {F : Nat → Nat → Int} {j k : Nat} (h : Rh w B T R C K F j k W) (b : Below W.heap.size W W') : Rh w B T R C K F j k W' :=
  ⟨h.bel.trans (b.mono h.bel.size), h.hB, h.hT, h.ne, (b.block _ (lt_of_heap h.obj)).trans h.obj, (b.block _ (lt_of_heap h.res)).trans h.res, h.own, h.apart, fun r hr => (h.rows r hr).keep (Keeps.of_below (S := []) b) (by simp)⟩
/-- All rows are changed. -/
theorem Rh.ref {w W : World} {B T : Nat} {R C : Nat → Nat} {K L : Sk} {F : Nat → Nat → Int} (h : Rh w B T R C K F 4 0 W) (hn : L.n = K.n) (hc : ∀ r i, F r i = ((L.c r i : Nat) : Int)) : IsRef W R C L := fun r hr => by
  rw [hn]
  exact (h.rows r hr).congr fun i hi => by rw [if_pos (.inl hr)]; exact (hc r i).symm
/-- The copy was stored. -/
theorem Rh.start {w W0 W : World} {B T : Nat} {R C R' C' : Nat → Nat} {K : Sk} (F : Nat → Nat → Int) (b : Below w.heap.size w W0) (hB : w.heap.size ≤ B) (hT : w.heap.size ≤ T) (ne : B ≠ T) (ho : W0.heap[B]? = some (.cells (refC K R C) 27 (0, 0))) (hr : W0.heap[T]? = some (.cells #[.int .i64 0, .int .i64 0, .int .i64 0, .int .u64 0, .slice none 0 0, .slice none 0 0, .slice none 0 0, .slice none 0 0] 27 (0, 0)))
    (b1 : Below W0.heap.size W0 W) (own : ∀ r, r < 4 → W0.heap.size ≤ R' r) (ap : ∀ r s, r < 4 → s < 4 → r ≠ s → R' r ≠ R' s) (q : IsRef W R' C' K) :
    Rh w B T R' C' K F 0 0 ((((((((W.setCell ⟨B, 0, none⟩ (.int .i64 (K.n : Nat))).setCell ⟨B, 1, none⟩ (.int .i64 (K.s : Nat))).setCell ⟨B, 2, none⟩ (.int .i64 (K.a : Nat))).setCell ⟨B, 3, none⟩ (.int .u64 K.seed)).setCell ⟨B, 4, none⟩ (.slice (some ⟨R' 0, 0, none⟩) K.n (C' 0))).setCell ⟨B, 5, none⟩ (.slice (some ⟨R' 1, 0, none⟩) K.n (C' 1))).setCell ⟨B, 6, none⟩ (.slice (some ⟨R' 2, 0, none⟩) K.n (C' 2))).setCell ⟨B, 7, none⟩ (.slice (some ⟨R' 3, 0, none⟩) K.n (C' 3))) := by
  have ltB := lt_of_heap ho
  have ltT := lt_of_heap hr
  have ho1 : W.heap[B]? = _ := (b1.block _ ltB).trans ho
  have hr1 : W.heap[T]? = _ := (b1.block _ ltT).trans hr
  have bb : Below w.heap.size w W := b.trans (b1.mono b.size)
  refine ⟨(((((((bb.setCell hB _).setCell hB _).setCell hB _).setCell hB _).setCell hB _).setCell hB _).setCell hB _).setCell hB _, hB, hT, ne, heap_fill8 ho1 _ _ _ _ _ _ _ _, (((((((heap_other hr1 (Ne.symm ne) _) |> fun h => heap_other h (Ne.symm ne) _) |> fun h => heap_other h (Ne.symm ne) _) |> fun h => heap_other h (Ne.symm ne) _) |> fun h => heap_other h (Ne.symm ne) _) |> fun h => heap_other h (Ne.symm ne) _) |> fun h => heap_other h (Ne.symm ne) _) |> fun h => heap_other h (Ne.symm ne) _, fun r h4 => Nat.le_trans b.size (own r h4), ap, fun r h4 => ?_⟩
  have hne : R' r ≠ B := by have := own r h4; omega
  exact ((((((((((q r h4).other hne _).other hne _).other hne _).other hne _).other hne _).other hne _).other hne _).other hne _)).congr fun i hi => by rw [if_neg (by omega)]
/-- A reference sketch that is ready to be handed back. -/
structure Rf (w : World) (B T : Nat) (R C : Nat → Nat) (L : Sk) (W : World) : Prop where
  bel : Below w.heap.size w W
  hB : w.heap.size ≤ B
  hT : w.heap.size ≤ T
  ne : B ≠ T
  obj : W.heap[B]? = some (.cells (refC L R C) 27 (0, 0))
  res : W.heap[T]? = some (.cells #[.int .i64 0, .int .i64 0, .int .i64 0, .int .u64 0, .slice none 0 0, .slice none 0 0, .slice none 0 0, .slice none 0 0] 27 (0, 0))
  own : ∀ r, r < 4 → w.heap.size ≤ R r
  apart : ∀ r s, r < 4 → s < 4 → r ≠ s → R r ≠ R s
  ref : IsRef W R C L
/-- It was stored as the result. -/
def Rd (w : World) (T : Nat) (R C : Nat → Nat) (L : Sk) (W : World) : Prop := Below w.heap.size w W ∧ W.heap[T]? = some (.cells (refC L R C) 27 (0, 0)) ∧ (∀ r, r < 4 → w.heap.size ≤ R r) ∧ (∀ r s, r < 4 → s < 4 → r ≠ s → R r ≠ R s) ∧ IsRef W R C L
theorem Rd.of {w W : World} {T : Nat} {R C : Nat → Nat} {L : Sk} (bel : Below w.heap.size w W) (hT : w.heap.size ≤ T) (res : W.heap[T]? = some (.cells #[.int .i64 0, .int .i64 0, .int .i64 0, .int .u64 0, .slice none 0 0, .slice none 0 0, .slice none 0 0, .slice none 0 0] 27 (0, 0))) (own : ∀ r, r < 4 → w.heap.size ≤ R r) (ap : ∀ r s, r < 4 → s < 4 → r ≠ s → R r ≠ R s) (ref : IsRef W R C L) :
    Rd w T R C L ((((((((W.setCell ⟨T, 0, none⟩ (.int .i64 (L.n : Nat))).setCell ⟨T, 1, none⟩ (.int .i64 (L.s : Nat))).setCell ⟨T, 2, none⟩ (.int .i64 (L.a : Nat))).setCell ⟨T, 3, none⟩ (.int .u64 L.seed)).setCell ⟨T, 4, none⟩ (.slice (some ⟨R 0, 0, none⟩) L.n (C 0))).setCell ⟨T, 5, none⟩ (.slice (some ⟨R 1, 0, none⟩) L.n (C 1))).setCell ⟨T, 6, none⟩ (.slice (some ⟨R 2, 0, none⟩) L.n (C 2))).setCell ⟨T, 7, none⟩ (.slice (some ⟨R 3, 0, none⟩) L.n (C 3))) := by
  refine ⟨(((((((bel.setCell hT _).setCell hT _).setCell hT _).setCell hT _).setCell hT _).setCell hT _).setCell hT _).setCell hT _, heap_fill8 res _ _ _ _ _ _ _ _, own, ap, fun r h4 => ?_⟩
  have q := ref r h4
  have hne : R r ≠ T := fun e => by
    obtain ⟨cur, hc, _⟩ := q
    rw [e, res] at hc; simp at hc
  exact ((((((((q.other hne _).other hne _).other hne _).other hne _).other hne _).other hne _).other hne _).other hne _)
theorem Rf.done {w W : World} {B T : Nat} {R C : Nat → Nat} {L : Sk} (h : Rf w B T R C L W) :
    Rd w T R C L ((((((((W.setCell ⟨T, 0, none⟩ (.int .i64 (L.n : Nat))).setCell ⟨T, 1, none⟩ (.int .i64 (L.s : Nat))).setCell ⟨T, 2, none⟩ (.int .i64 (L.a : Nat))).setCell ⟨T, 3, none⟩ (.int .u64 L.seed)).setCell ⟨T, 4, none⟩ (.slice (some ⟨R 0, 0, none⟩) L.n (C 0))).setCell ⟨T, 5, none⟩ (.slice (some ⟨R 1, 0, none⟩) L.n (C 1))).setCell ⟨T, 6, none⟩ (.slice (some ⟨R 2, 0, none⟩) L.n (C 2))).setCell ⟨T, 7, none⟩ (.slice (some ⟨R 3, 0, none⟩) L.n (C 3))) :=
  Rd.of h.bel h.hT h.res h.own h.apart h.ref
end Go.Proofs.Ytffniljefbpoiaa
