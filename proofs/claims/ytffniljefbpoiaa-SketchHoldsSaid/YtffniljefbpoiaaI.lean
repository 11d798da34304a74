/-
  The contract of Copy.
-/
import Derived.Test.YtffniljefbpoiaaH
namespace Go.Proofs.Ytffniljefbpoiaa
open Go.ChangeShapes Go.WideShapes Go.ChangeAt Go.RowKit
set_option linter.unusedVariables false

/-- The copy while it is made: rows before a row are its own. -/
structure Cv (w : World) (T : Nat) (G Q : Nat → Nat) (K : Sk) (j : Nat) (G' Q' : Nat → Nat) (W : World) : Prop where
  bel : Below w.heap.size w W
  here : w.heap.size ≤ T
  obj : W.heap[T]? = some (.cells (skC K (fun r => if r < j then G' r else G r) (fun r => if r < j then Q' r else Q r)) 54 (0, 0))
  rows : ∀ r, r < j → w.heap.size ≤ G' r ∧ Nums W .u64 22 (G' r) (K.n / 16) (Q' r) (wordsF (K.c r))
  apart : ∀ r s, r < j → s < j → r ≠ s → G' r ≠ G' s
theorem skC_set (K : Sk) (A B A' B' : Nat → Nat) (j g c : Nat) (hj : j < 4) (hg : A' j = g) (hc : B' j = c) (ha : ∀ r, r ≠ j → A' r = A r) (hb : ∀ r, r ≠ j → B' r = B r) :
    (skC K A B).setIfInBounds (5 + j) (.slice (some ⟨g, 0, none⟩) (K.n / 16) c) = skC K A' B' := by
  subst hg; subst hc
  have : j = 0 ∨ j = 1 ∨ j = 2 ∨ j = 3 := by omega
  rcases this with rfl | rfl | rfl | rfl
  · unfold skC; rw [ha 1 (by omega), ha 2 (by omega), ha 3 (by omega), hb 1 (by omega), hb 2 (by omega), hb 3 (by omega)]; rfl
  · unfold skC; rw [ha 0 (by omega), ha 2 (by omega), ha 3 (by omega), hb 0 (by omega), hb 2 (by omega), hb 3 (by omega)]; rfl
  · unfold skC; rw [ha 0 (by omega), ha 1 (by omega), ha 3 (by omega), hb 0 (by omega), hb 1 (by omega), hb 3 (by omega)]; rfl
  · unfold skC; rw [ha 0 (by omega), ha 1 (by omega), ha 2 (by omega), hb 0 (by omega), hb 1 (by omega), hb 2 (by omega)]; rfl
theorem Cv.step {w W W2 : World} {T : Nat} {G Q : Nat → Nat} {K : Sk} {j : Nat} {G' Q' : Nat → Nat} {g c : Nat} (h : Cv w T G Q K j G' Q' W) (hj : j < 4) (b : Below W.heap.size W W2) (n : Nums W2 .u64 22 g (K.n / 16) c (wordsF (K.c j))) (hg : W.heap.size ≤ g) :
    Cv w T G Q K (j + 1) (fun r => if r = j then g else G' r) (fun r => if r = j then c else Q' r) (W2.setCell ⟨T, 5 + j, none⟩ (.slice (some ⟨g, 0, none⟩) (K.n / 16) c)) := by
  have hT := lt_of_heap h.obj
  have ho : W2.heap[T]? = _ := (b.block _ hT).trans h.obj
  refine ⟨(h.bel.trans (b.mono h.bel.size)).setCell h.here _, h.here, ?_, ?_, ?_⟩
  · rw [heap_set ho]
    rw [skC_set K _ _ (fun r => if r < j + 1 then if r = j then g else G' r else G r) (fun r => if r < j + 1 then if r = j then c else Q' r else Q r) j g c hj]
    · show (if j < j + 1 then if j = j then g else G' j else G j) = g
      rw [if_pos (by omega), if_pos rfl]
    · show (if j < j + 1 then if j = j then c else Q' j else Q j) = c
      rw [if_pos (by omega), if_pos rfl]
    · intro r hr
      by_cases q : r < j
      · rw [if_pos (by omega), if_neg hr, if_pos q]
      · rw [if_neg (by omega), if_neg q]
    · intro r hr
      by_cases q : r < j
      · rw [if_pos (by omega), if_neg hr, if_pos q]
      · rw [if_neg (by omega), if_neg q]
  · intro r hr
    by_cases e : r = j
    · subst e
      rw [if_pos rfl, if_pos rfl]
      refine ⟨Nat.le_trans h.bel.size hg, n.other (fun e => ?_) _⟩
      omega
    · rw [if_neg e, if_neg e]
      have q := h.rows r (by omega)
      refine ⟨q.1, (q.2.keep (Keeps.of_below (S := []) b) (by simp)).other (fun e => ?_) _⟩
      obtain ⟨cur, hc, _⟩ := q.2
      rw [e, h.obj] at hc
      simp at hc
  · intro r s hr hs hne
    have hl : ∀ r, r < j → G' r < W.heap.size := fun r hr => (h.rows r hr).2.lt
    by_cases e1 : r = j
    · subst e1
      have := hl s (by omega)
      rw [if_pos rfl, if_neg (by omega)]; omega
    · by_cases e2 : s = j
      · subst e2
        have := hl r (by omega)
        rw [if_neg e1, if_pos rfl]; omega
      · rw [if_neg e1, if_neg e2]; exact h.apart r s (by omega) (by omega) hne
set_option maxRecDepth 100000 in
theorem copy_is {w : World} {p : Nat} {G Q : Nat → Nat} {K : Sk} (s : IsSk w p G Q K) (hK : K.Ok) :
    Calls Try.prog 16 #[.pointer (some ⟨p, 0, none⟩)] w fun e w' => ∃ p' G' Q', e = .returned (.pointer (some ⟨p', 0, none⟩)) ∧ Below w.heap.size w w' ∧ (∀ i ∈ blocks p' G', w.heap.size ≤ i) ∧ IsSk w' p' G' Q' K := by
  have c0 : w.cell? ⟨p, 0, none⟩ = some (.int .i64 (K.n : Nat)) := cell_of s.obj 0
  have c1 : w.cell? ⟨p, 1, none⟩ = some (.int .i64 (K.s : Nat)) := cell_of s.obj 1
  have c2 : w.cell? ⟨p, 2, none⟩ = some (.int .i64 (K.a : Nat)) := cell_of s.obj 2
  have c3 : w.cell? ⟨p, 3, none⟩ = some (.int .u64 K.seed) := cell_of s.obj 3
  have c4 : w.cell? ⟨p, 4, none⟩ = some (.bool false) := cell_of s.obj 4
  have c5 : w.cell? ⟨p, 5, none⟩ = some (.slice (some ⟨G 0, 0, none⟩) (K.n / 16) (Q 0)) := s.row_cell (r := 0) (by omega)
  have c6 : w.cell? ⟨p, 6, none⟩ = some (.slice (some ⟨G 1, 0, none⟩) (K.n / 16) (Q 1)) := s.row_cell (r := 1) (by omega)
  have c7 : w.cell? ⟨p, 7, none⟩ = some (.slice (some ⟨G 2, 0, none⟩) (K.n / 16) (Q 2)) := s.row_cell (r := 2) (by omega)
  have c8 : w.cell? ⟨p, 8, none⟩ = some (.slice (some ⟨G 3, 0, none⟩) (K.n / 16) (Q 3)) := s.row_cell (r := 3) (by omega)
  have lt := lt_of_heap s.obj
  have hN : 0 < K.n / 16 ∧ K.n / 16 ≤ 65536 := by have := hK.n16; omega
  obtain ⟨hN0, hN1⟩ := hN
  have C0 : Cv w w.heap.size G Q K 0 G Q (w.alloc (.cells (skC K G Q) 54)) := ⟨(Below.refl _ _).alloc (Nat.le_refl _) _, Nat.le_refl _, heap_new rfl, fun r hr => by omega, fun r s hr => by omega⟩
  go_enter Try.func16, Try.ntmps16
  go_wp2_with (first | (go_at_call 28; refine (zero_is s hK).mono ?_; rintro e w1 ⟨rfl, rfl⟩))
  go_loopw [15] (fun x wr => ∃ j : Nat, j ≤ 4 ∧ x = .int .i64 (j : Nat) ∧ ∃ G' Q', Cv w w.heap.size G Q K j G' Q' wr) (fun x _ => 5 - (intOf x).toNat)
  case atStart => exact ⟨0, by omega, rfl, G, Q, C0⟩
  case round =>
    obtain ⟨j, hj, rfl, G', Q', v⟩ := hrel
    clear C0 c0 c1 c2 c3 c4 c5 c6 c7 c8
    by_cases hj4 : j < 4
    · have ix := fun w => index52_at (.slice (some ⟨G 0, 0, none⟩) (K.n / 16) (Q 0)) (.slice (some ⟨G 1, 0, none⟩) (K.n / 16) (Q 1)) (.slice (some ⟨G 2, 0, none⟩) (K.n / 16) (Q 2)) (.slice (some ⟨G 3, 0, none⟩) (K.n / 16) (Q 3)) j hj4 w
      have ex : #[Value.slice (some ⟨G 0, 0, none⟩) (K.n / 16) (Q 0), .slice (some ⟨G 1, 0, none⟩) (K.n / 16) (Q 1), .slice (some ⟨G 2, 0, none⟩) (K.n / 16) (Q 2), .slice (some ⟨G 3, 0, none⟩) (K.n / 16) (Q 3)].getD j undef = .slice (some ⟨G j, 0, none⟩) (K.n / 16) (Q j) := by
        have : j = 0 ∨ j = 1 ∨ j = 2 ∨ j = 3 := by omega
        rcases this with rfl | rfl | rfl | rfl <;> rfl
      rw [ex] at ix
      clear ex
      have nj := ((s.below v.bel).rows j hj4)
      have lt2 := lt_of_heap v.obj
      have y2 : (skC K (fun r => if r < j then G' r else G r) (fun r => if r < j then Q' r else Q r))[5 + j]? = some (.slice (some ⟨G j, 0, none⟩) (K.n / 16) (Q j)) := by
        have : j = 0 ∨ j = 1 ∨ j = 2 ∨ j = 3 := by omega
        rcases this with rfl | rfl | rfl | rfl <;> simp [skC]
      have y2 := Lib.hid y2
      go_wp2_with (first | (go_at_call 32; refine (clone_is nj hN0 hN1).mono ?_; rintro e w1 ⟨g, c, rfl, b1, n1, hg⟩; have o1 : w1.heap[w.heap.size]? = _ := (b1.block _ lt2).trans v.obj; have y1 : w1.cell? ⟨w.heap.size, 5 + j, none⟩ = _ := cell_of o1 (5 + j); have z1 : w1.frozen? ⟨w.heap.size, 5 + j, none⟩ = false := frozen_of o1 (5 + j); rw [y2.out] at y1))
      go_roundw
      case rel => exact ⟨j + 1, by omega, by go_num, _, _, v.step hj4 b1 n1 hg⟩
      all_goals (simp [intOf]; omega)
    · obtain rfl : j = 4 := by omega
      go_wp2_with fail
      go_ret
      refine ⟨w.heap.size, G', Q', rfl, v.bel, ?_, ⟨v.obj.trans ?_, fun r hr => (v.rows r hr).2, v.apart⟩⟩
      · intro i hi
        rcases mem_blocks.1 hi with rfl | ⟨r, hr, rfl⟩
        · exact Nat.le_refl _
        · exact (v.rows r hr).1
      · simp [skC]
end Go.Proofs.Ytffniljefbpoiaa
