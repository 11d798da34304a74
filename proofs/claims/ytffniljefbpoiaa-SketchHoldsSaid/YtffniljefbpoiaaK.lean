/-
  The contract of the reference's Copy.
-/
import Derived.Test.YtffniljefbpoiaaJ
namespace Go.Proofs.Ytffniljefbpoiaa
open Go.ChangeShapes Go.WideShapes Go.ChangeAt Go.RowKit
set_option linter.unusedVariables false

theorem heap_fill8 {w : World} {p : Nat} {a0 a1 a2 a3 a4 a5 a6 a7 : Value} {T : TypeId} (h : w.heap[p]? = some (.cells #[a0, a1, a2, a3, a4, a5, a6, a7] T (0, 0))) (b0 b1 b2 b3 b4 b5 b6 b7 : Value) :
    ((((((((w.setCell ⟨p, 0, none⟩ b0).setCell ⟨p, 1, none⟩ b1).setCell ⟨p, 2, none⟩ b2).setCell ⟨p, 3, none⟩ b3).setCell ⟨p, 4, none⟩ b4).setCell ⟨p, 5, none⟩ b5).setCell ⟨p, 6, none⟩ b6).setCell ⟨p, 7, none⟩ b7).heap[p]? = some (.cells #[b0, b1, b2, b3, b4, b5, b6, b7] T (0, 0)) := by
  have h0 := heap_set h (i := 0) b0
  rw [show #[a0, a1, a2, a3, a4, a5, a6, a7].setIfInBounds 0 b0 = #[b0, a1, a2, a3, a4, a5, a6, a7] from rfl] at h0
  have h1 := heap_set h0 (i := 1) b1
  rw [show #[b0, a1, a2, a3, a4, a5, a6, a7].setIfInBounds 1 b1 = #[b0, b1, a2, a3, a4, a5, a6, a7] from rfl] at h1
  have h2 := heap_set h1 (i := 2) b2
  rw [show #[b0, b1, a2, a3, a4, a5, a6, a7].setIfInBounds 2 b2 = #[b0, b1, b2, a3, a4, a5, a6, a7] from rfl] at h2
  have h3 := heap_set h2 (i := 3) b3
  rw [show #[b0, b1, b2, a3, a4, a5, a6, a7].setIfInBounds 3 b3 = #[b0, b1, b2, b3, a4, a5, a6, a7] from rfl] at h3
  have h4 := heap_set h3 (i := 4) b4
  rw [show #[b0, b1, b2, b3, a4, a5, a6, a7].setIfInBounds 4 b4 = #[b0, b1, b2, b3, b4, a5, a6, a7] from rfl] at h4
  have h5 := heap_set h4 (i := 5) b5
  rw [show #[b0, b1, b2, b3, b4, a5, a6, a7].setIfInBounds 5 b5 = #[b0, b1, b2, b3, b4, b5, a6, a7] from rfl] at h5
  have h6 := heap_set h5 (i := 6) b6
  rw [show #[b0, b1, b2, b3, b4, b5, a6, a7].setIfInBounds 6 b6 = #[b0, b1, b2, b3, b4, b5, b6, a7] from rfl] at h6
  have h7 := heap_set h6 (i := 7) b7
  rw [show #[b0, b1, b2, b3, b4, b5, b6, a7].setIfInBounds 7 b7 = #[b0, b1, b2, b3, b4, b5, b6, b7] from rfl] at h7
  exact h7

/-- The reference's copy while it is made: rows before a row are its own. -/
structure Rv (w : World) (T : Nat) (G Q : Nat → Nat) (K : Sk) (j : Nat) (G' Q' : Nat → Nat) (W : World) : Prop where
  bel : Below w.heap.size w W
  here : w.heap.size ≤ T
  obj : W.heap[T]? = some (.cells (refC K (fun r => if r < j then G' r else G r) (fun r => if r < j then Q' r else Q r)) 27 (0, 0))
  rows : ∀ r, r < j → w.heap.size ≤ G' r ∧ Nums W .i64 3 (G' r) (K.n) (Q' r) (fun i => ((K.c r i : Nat) : Int))
  apart : ∀ r s, r < j → s < j → r ≠ s → G' r ≠ G' s
theorem refC_set (K : Sk) (A B A' B' : Nat → Nat) (j g c : Nat) (hj : j < 4) (hg : A' j = g) (hc : B' j = c) (ha : ∀ r, r ≠ j → A' r = A r) (hb : ∀ r, r ≠ j → B' r = B r) :
    (refC K A B).setIfInBounds (4 + j) (.slice (some ⟨g, 0, none⟩) (K.n) c) = refC K A' B' := by
  subst hg; subst hc
  have : j = 0 ∨ j = 1 ∨ j = 2 ∨ j = 3 := by omega
  rcases this with rfl | rfl | rfl | rfl
  · unfold refC; rw [ha 1 (by omega), ha 2 (by omega), ha 3 (by omega), hb 1 (by omega), hb 2 (by omega), hb 3 (by omega)]; rfl
  · unfold refC; rw [ha 0 (by omega), ha 2 (by omega), ha 3 (by omega), hb 0 (by omega), hb 2 (by omega), hb 3 (by omega)]; rfl
  · unfold refC; rw [ha 0 (by omega), ha 1 (by omega), ha 3 (by omega), hb 0 (by omega), hb 1 (by omega), hb 3 (by omega)]; rfl
  · unfold refC; rw [ha 0 (by omega), ha 1 (by omega), ha 2 (by omega), hb 0 (by omega), hb 1 (by omega), hb 2 (by omega)]; rfl
theorem Rv.step {w W W2 : World} {T : Nat} {G Q : Nat → Nat} {K : Sk} {j : Nat} {G' Q' : Nat → Nat} {g c : Nat} (h : Rv w T G Q K j G' Q' W) (hj : j < 4) (b : Below W.heap.size W W2) (n : Nums W2 .i64 3 g (K.n) c (fun i => ((K.c j i : Nat) : Int))) (hg : W.heap.size ≤ g) :
    Rv w T G Q K (j + 1) (fun r => if r = j then g else G' r) (fun r => if r = j then c else Q' r) (W2.setCell ⟨T, 4 + j, none⟩ (.slice (some ⟨g, 0, none⟩) (K.n) c)) := by
  have hT := lt_of_heap h.obj
  have ho : W2.heap[T]? = _ := (b.block _ hT).trans h.obj
  refine ⟨(h.bel.trans (b.mono h.bel.size)).setCell h.here _, h.here, ?_, ?_, ?_⟩
  · rw [heap_set ho]
    rw [refC_set K _ _ (fun r => if r < j + 1 then if r = j then g else G' r else G r) (fun r => if r < j + 1 then if r = j then c else Q' r else Q r) j g c hj]
    · show (if j < j + 1 then if j = j then g else G' j else G j) = g
      rw [if_pos (by omega), if_pos rfl]
    · show (if j < j + 1 then if j = j then c else Q' j else Q j) = c
      rw [if_pos (by omega), if_pos rfl]
    · intro r hr
      by_cases q : r < j
      · rw [if_pos (by omega), if_neg hr, if_pos q]
      · rw [if_neg (by omega), if_neg q]
    · intro r hr
      by_cases q : r < j
      · rw [if_pos (by omega), if_neg hr, if_pos q]
      · rw [if_neg (by omega), if_neg q]
  · intro r hr
    by_cases e : r = j
    · subst e
      rw [if_pos rfl, if_pos rfl]
      refine ⟨Nat.le_trans h.bel.size hg, n.other (fun e => ?_) _⟩
      omega
    · rw [if_neg e, if_neg e]
      have q := h.rows r (by omega)
      refine ⟨q.1, (q.2.keep (Keeps.of_below (S := []) b) (by simp)).other (fun e => ?_) _⟩
      obtain ⟨cur, hc, _⟩ := q.2
      rw [e, h.obj] at hc
      simp at hc
  · intro r s hr hs hne
    have hl : ∀ r, r < j → G' r < W.heap.size := fun r hr => (h.rows r hr).2.lt
    by_cases e1 : r = j
    · subst e1
      have := hl s (by omega)
      rw [if_pos rfl, if_neg (by omega)]; omega
    · by_cases e2 : s = j
      · subst e2
        have := hl r (by omega)
        rw [if_neg e1, if_pos rfl]; omega
      · rw [if_neg e1, if_neg e2]; exact h.apart r s (by omega) (by omega) hne
/-- A reference sketch of its own is handed back. -/
def RefBack (w : World) (K : Sk) (e : Ending) (w' : World) : Prop := ∃ R C, e = .returned (.agg (refC K R C)) ∧ Below w.heap.size w w' ∧ (∀ r, r < 4 → w.heap.size ≤ R r) ∧ (∀ r s, r < 4 → s < 4 → r ≠ s → R r ≠ R s) ∧ IsRef w' R C K
theorem i24 (w : World) : w.ownsRow 0 3 1 (.slice none 0 0) 0 [] := World.ownsRow_nil _ _ _ _
set_option maxRecDepth 100000 in
set_option maxHeartbeats 4000000 in
theorem refCopy_is {w : World} {R C : Nat → Nat} {K : Sk} (s : IsRef w R C K) (hK : K.Ok) : Calls Try.prog 31 #[.agg (refC K R C)] w fun e w' => RefBack w K e w' := by
  have hn := hK.n16
  have n0 : 0 < K.n := by omega
  have n1 : K.n ≤ 65536 := hn.2.1
  clear hn
  obtain ⟨i3, hi, hz, hs, hb⟩ := info_parts info3
  have bq : Below w.heap.size w ((w.alloc (.cells (refC K R C) 27)).alloc (.cells #[.int .i64 0, .int .i64 0, .int .i64 0, .int .u64 0, .slice none 0 0, .slice none 0 0, .slice none 0 0, .slice none 0 0] 27)) := ((Below.refl _ _).alloc (Nat.le_refl _) _).alloc (by simp) _
  have V0 : Rv w w.heap.size R C K 0 R C ((w.alloc (.cells (refC K R C) 27)).alloc (.cells #[.int .i64 0, .int .i64 0, .int .i64 0, .int .u64 0, .slice none 0 0, .slice none 0 0, .slice none 0 0, .slice none 0 0] 27)) := ⟨bq, Nat.le_refl _, heap_alloc (heap_new rfl) _, fun r hr => by omega, fun r s hr => by omega⟩
  have T0 : ((w.alloc (.cells (refC K R C) 27)).alloc (.cells #[.int .i64 0, .int .i64 0, .int .i64 0, .int .u64 0, .slice none 0 0, .slice none 0 0, .slice none 0 0, .slice none 0 0] 27)).heap[w.heap.size + 1]? = some (.cells #[.int .i64 0, .int .i64 0, .int .i64 0, .int .u64 0, .slice none 0 0, .slice none 0 0, .slice none 0 0, .slice none 0 0] 27 (0, 0)) := heap_new (by simp)
  unfold refC at V0 T0
  go_enter Try.func31, Try.ntmps31
  go_wp2_with fail
  clear bq
  go_loopw [3] (fun x wr => ∃ j : Nat, j ≤ 4 ∧ x = .int .i64 (j : Nat) ∧ (∃ R' C', Rv w w.heap.size R C K j R' C' wr) ∧ wr.heap[w.heap.size + 1]? = some (.cells #[.int .i64 0, .int .i64 0, .int .i64 0, .int .u64 0, .slice none 0 0, .slice none 0 0, .slice none 0 0, .slice none 0 0] 27 (0, 0))) (fun x _ => 5 - (intOf x).toNat)
  case atStart => exact ⟨0, by omega, rfl, ⟨R, C, V0⟩, T0⟩
  case round =>
    obtain ⟨j, hj, rfl, ⟨R', C', v⟩, T1⟩ := hrel
    clear V0 T0
    have ltT := lt_of_heap T1
    by_cases hj4 : j < 4
    · have nj := ((s.below v.bel) j hj4)
      have lt2 := lt_of_heap v.obj
      have y2 : (refC K (fun r => if r < j then R' r else R r) (fun r => if r < j then C' r else C r))[4 + j]? = some (.slice (some ⟨R j, 0, none⟩) K.n (C j)) := by
        rw [refC_at K _ _ j hj4]; simp
      have y0 : wr.cell? ⟨w.heap.size, 4 + j, none⟩ = some (.slice (some ⟨R j, 0, none⟩) K.n (C j)) := (cell_of v.obj _).trans y2
      have y2 := Lib.hid y2
      go_wp2_with (first | (at_builtin; refine wpList_append_lies _ rfl (.const (.slice none 0 0)) (.tmp 12) 24 rfl wr.heap.size 3 i3 _ 1 8 Try.underlying24 hi hz hs hb rfl (by decide) (.slice none 0 0) 0 [] rfl (World.ownsRow_nil _ _ _ _) ⟨R j, 0, none⟩ K.n (C j) ((List.range K.n).map fun i => Value.int .i64 ((K.c j i : Nat) : Int)) (by simp [Act.eval]) (by simp) (nj.owns.cells rfl) nums_one n0 (by unfold maxLen; omega) (by omega) (Nat.le_refl _) _ rfl ?_; intro g cap2 w1 o1 gr1 pl1 lt1; have b1 : Below wr.heap.size wr w1 := below_grown (Below.refl _ _) (Nat.le_refl _) gr1 (by intro i hi; simp [Value.ownBlock] at hi); have o3 : w1.heap[w.heap.size]? = _ := (b1.block _ lt2).trans v.obj; have y1 : w1.cell? ⟨w.heap.size, 4 + j, none⟩ = _ := cell_of o3 (4 + j); have z1 : w1.frozen? ⟨w.heap.size, 4 + j, none⟩ = false := frozen_of o3 (4 + j); rw [y2.out] at y1))
      have o2 : w1.ownsRow wr.heap.size 3 1 (.slice (some ⟨g, 0, none⟩) K.n cap2) K.n ((List.range K.n).map fun i => Value.int .i64 ((K.c j i : Nat) : Int)) := by simpa using o1
      go_roundw
      case rel => exact ⟨j + 1, by omega, by go_num, ⟨_, _, v.step hj4 b1 (Nums.of_owns o2) (o2.lt g rfl).1⟩, heap_other ((b1.block _ ltT).trans T1) (by omega) _⟩
      all_goals (simp [intOf]; omega)
    · obtain rfl : j = 4 := by omega
      have O4 : wr.heap[w.heap.size]? = some (.cells (refC K R' C') 27 (0, 0)) := v.obj.trans (by simp [refC])
      have c0 : wr.cell? ⟨w.heap.size, 0, none⟩ = some (.int .i64 (K.n : Nat)) := cell_of O4 0
      have c1 : wr.cell? ⟨w.heap.size, 1, none⟩ = some (.int .i64 (K.s : Nat)) := cell_of O4 1
      have c2 : wr.cell? ⟨w.heap.size, 2, none⟩ = some (.int .i64 (K.a : Nat)) := cell_of O4 2
      have c3 : wr.cell? ⟨w.heap.size, 3, none⟩ = some (.int .u64 K.seed) := cell_of O4 3
      have c4 : wr.cell? ⟨w.heap.size, 4, none⟩ = some (.slice (some ⟨R' 0, 0, none⟩) K.n (C' 0)) := cell_of O4 4
      have c5 : wr.cell? ⟨w.heap.size, 5, none⟩ = some (.slice (some ⟨R' 1, 0, none⟩) K.n (C' 1)) := cell_of O4 5
      have c6 : wr.cell? ⟨w.heap.size, 6, none⟩ = some (.slice (some ⟨R' 2, 0, none⟩) K.n (C' 2)) := cell_of O4 6
      have c7 : wr.cell? ⟨w.heap.size, 7, none⟩ = some (.slice (some ⟨R' 3, 0, none⟩) K.n (C' 3)) := cell_of O4 7
      have d0 : wr.cell? ⟨w.heap.size + 1, 0, none⟩ = some (.int .i64 0) := cell_of T1 0
      have d1 : wr.cell? ⟨w.heap.size + 1, 1, none⟩ = some (.int .i64 0) := cell_of T1 1
      have d2 : wr.cell? ⟨w.heap.size + 1, 2, none⟩ = some (.int .i64 0) := cell_of T1 2
      have d3 : wr.cell? ⟨w.heap.size + 1, 3, none⟩ = some (.int .u64 0) := cell_of T1 3
      have d4 : wr.cell? ⟨w.heap.size + 1, 4, none⟩ = some (.slice none 0 0) := cell_of T1 4
      have d5 : wr.cell? ⟨w.heap.size + 1, 5, none⟩ = some (.slice none 0 0) := cell_of T1 5
      have d6 : wr.cell? ⟨w.heap.size + 1, 6, none⟩ = some (.slice none 0 0) := cell_of T1 6
      have d7 : wr.cell? ⟨w.heap.size + 1, 7, none⟩ = some (.slice none 0 0) := cell_of T1 7
      have f0 : wr.frozen? ⟨w.heap.size + 1, 0, none⟩ = false := frozen_of T1 0
      have f1 : wr.frozen? ⟨w.heap.size + 1, 1, none⟩ = false := frozen_of T1 1
      have f2 : wr.frozen? ⟨w.heap.size + 1, 2, none⟩ = false := frozen_of T1 2
      have f3 : wr.frozen? ⟨w.heap.size + 1, 3, none⟩ = false := frozen_of T1 3
      have f4 : wr.frozen? ⟨w.heap.size + 1, 4, none⟩ = false := frozen_of T1 4
      have f5 : wr.frozen? ⟨w.heap.size + 1, 5, none⟩ = false := frozen_of T1 5
      have f6 : wr.frozen? ⟨w.heap.size + 1, 6, none⟩ = false := frozen_of T1 6
      have f7 : wr.frozen? ⟨w.heap.size + 1, 7, none⟩ = false := frozen_of T1 7
      have hT : w.heap.size ≤ w.heap.size + 1 := by omega
      go_wp2_with fail
      refine post_seen (fun W => Below w.heap.size w W ∧ W.heap[w.heap.size + 1]? = some (.cells (refC K R' C') 27 (0, 0)) ∧ IsRef W R' C' K) ⟨(((((((v.bel.setCell hT _).setCell hT _).setCell hT _).setCell hT _).setCell hT _).setCell hT _).setCell hT _).setCell hT _, heap_fill8 T1 _ _ _ _ _ _ _ _, fun r hr => ?_⟩ ?_
      · have q := (v.rows r hr).2
        have hne : R' r ≠ w.heap.size + 1 := fun e => by
          obtain ⟨cur, hc, _⟩ := q
          rw [e, T1] at hc; simp at hc
        exact ((((((((q.other hne _).other hne _).other hne _).other hne _).other hne _).other hne _).other hne _).other hne _)
      · clear c0 d0 f0 c1 d1 f1 c2 d2 f2 c3 d3 f3 c4 d4 f4 c5 d5 f5 c6 d6 f6 c7 d7 f7 O4 T1
        rintro W ⟨b9, o9, r9⟩
        have c0 : W.cell? ⟨w.heap.size + 1, 0, none⟩ = some (.int .i64 (K.n : Nat)) := cell_of o9 0
        have c1 : W.cell? ⟨w.heap.size + 1, 1, none⟩ = some (.int .i64 (K.s : Nat)) := cell_of o9 1
        have c2 : W.cell? ⟨w.heap.size + 1, 2, none⟩ = some (.int .i64 (K.a : Nat)) := cell_of o9 2
        have c3 : W.cell? ⟨w.heap.size + 1, 3, none⟩ = some (.int .u64 K.seed) := cell_of o9 3
        have c4 : W.cell? ⟨w.heap.size + 1, 4, none⟩ = some (.slice (some ⟨R' 0, 0, none⟩) K.n (C' 0)) := cell_of o9 4
        have c5 : W.cell? ⟨w.heap.size + 1, 5, none⟩ = some (.slice (some ⟨R' 1, 0, none⟩) K.n (C' 1)) := cell_of o9 5
        have c6 : W.cell? ⟨w.heap.size + 1, 6, none⟩ = some (.slice (some ⟨R' 2, 0, none⟩) K.n (C' 2)) := cell_of o9 6
        have c7 : W.cell? ⟨w.heap.size + 1, 7, none⟩ = some (.slice (some ⟨R' 3, 0, none⟩) K.n (C' 3)) := cell_of o9 7
        exact bodyPost_ret (v := .agg (refC K R' C')) (by simp [results, Try.results31, go_sem, c0, c1, c2, c3, c4, c5, c6, c7, refC]) rfl ⟨R', C', rfl, b9, fun r hr => (v.rows r hr).1, v.apart, r9⟩
end Go.Proofs.Ytffniljefbpoiaa
