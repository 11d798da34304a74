/-
  What the loops of SketchPlays and SketchHolds hold on to; few.
-/
import Derived.Test.YtffniljefbpoiaaT
namespace Go.Proofs.Ytffniljefbpoiaa
open Go.ChangeShapes Go.WideShapes Go.ChangeAt Go.RowKit
set_option linter.unusedVariables false

/-- A slice of calls. -/
def IsActs (w : World) (s : Option Addr) (len : Nat) (f : Nat → Int) (g : Nat → ByteArray) : Prop :=
  0 < len → ∃ b off, s = some ⟨b, off, none⟩ ∧ b < w.heap.size ∧ ∀ i, i < len → w.cell? ⟨b, off + i * 2, none⟩ = some (.int .i64 (f i)) ∧ w.cell? ⟨b, off + i * 2 + 1, none⟩ = some (.string (g i))
theorem IsActs.below {w W : World} {s : Option Addr} {len : Nat} {f : Nat → Int} {g : Nat → ByteArray} (h : IsActs w s len f g) (b : Below w.heap.size w W) : IsActs W s len f g := by
  intro hp
  obtain ⟨B, off, e, hb, hc⟩ := h hp
  exact ⟨B, off, e, Nat.lt_of_lt_of_le hb b.size, fun i hi => ⟨(b.cell (p := ⟨B, off + i * 2, none⟩) hb).trans (hc i hi).1, (b.cell (p := ⟨B, off + i * 2 + 1, none⟩) hb).trans (hc i hi).2⟩⟩
set_option maxRecDepth 100000 in
theorem few_is {w : World} {s : Option Addr} {len cap : Nat} {f : Nat → Int} {g : Nat → ByteArray} (h : IsActs w s len f g) (hl : len ≤ maxLen) :
    Calls Try.prog 9 #[.slice s len cap] w fun e w' => ∃ b : Bool, e = .returned (.bool b) ∧ (b = true → len ≤ 60 ∧ ∀ i, i < len → (g i).size ≤ 300) ∧ w = w' := by
  unfold maxLen at hl
  by_cases h60 : 60 < len
  · go_enter Try.func9, Try.ntmps9
    go_wp2_with fail
    go_ret
    exact ⟨false, rfl, (fun h => by cases h), rfl⟩
  · have h60' : len ≤ 60 := by omega
    clear hl
    go_enter Try.func9, Try.ntmps9
    go_wp2_with fail
    go_loopw [3] (fun v wr => ∃ k : Nat, k ≤ len ∧ v = .int .i64 (k : Nat) ∧ wr = w ∧ ∀ i, i < k → (g i).size ≤ 300) (fun v _ => len + 1 - (intOf v).toNat)
    case atStart => exact ⟨0, by omega, rfl, rfl, fun i hi => by omega⟩
    case round =>
      obtain ⟨k, hk, rfl, rfl, hs⟩ := hrel
      by_cases hkl : k < len
      · obtain ⟨b, off, rfl, hb, hc⟩ := h (by omega)
        have c1 := (hc k hkl).2
        by_cases h3 : 300 < (g k).size
        · clear hs
          go_wp2_with fail
          go_ret
          exact ⟨false, rfl, (fun h => by cases h), rfl⟩
        · have hs2 : ∀ i, i < k + 1 → (g i).size ≤ 300 := fun i hi => by
            by_cases e : i = k
            · subst e; omega
            · exact hs i (by omega)
          clear hs
          have hs3 := Lib.hid hs2
          clear hs2
          go_wp2_with fail
          go_roundw
          case rel => exact ⟨k + 1, by omega, by go_num, by simp, hs3.out⟩
          all_goals (simp [intOf]; omega)
      · obtain rfl : k = len := by omega
        have hs3 := Lib.hid hs
        clear hs
        go_wp2_with fail
        go_ret
        exact ⟨true, rfl, (fun _ => ⟨h60', hs3.out⟩), by simp⟩
/-- What the loop holds on to: the sketch, the reference's box, the call. -/
structure Pt (w : World) (p : Nat) (G Q : Nat → Nat) (X : Nat) (R C : Nat → Nat) (K L : Sk) (A : Nat) (x : Int) (key : ByteArray) (W : World) : Prop where
  bel : Below w.heap.size w W
  s : IsSk W p G Q K
  r : IsRef W R C L
  bx : W.heap[X]? = some (.cells (refC L R C) 27 (0, 0))
  act : W.heap[A]? = some (.cells #[.int .i64 x, .string key] 37 (0, 0))
  os : ∀ i ∈ blocks p G, w.heap.size ≤ i
  oX : w.heap.size ≤ X
  oA : w.heap.size ≤ A
section
variable {w W : World} {p : Nat} {G Q : Nat → Nat} {X : Nat} {R C : Nat → Nat} {K L : Sk} {A : Nat} {x : Int} {key : ByteArray}
theorem Pt.nX (h : Pt w p G Q X R C K L A x key W) : X ∉ blocks p G := by
  intro hm
  have hb := h.bx
  rcases mem_blocks.1 hm with e | ⟨q, hq, e⟩
  · rw [e, h.s.obj] at hb; simp at hb
  · obtain ⟨cur, hc, _⟩ := h.s.rows q hq
    rw [e, hc] at hb; simp at hb
theorem Pt.nA (h : Pt w p G Q X R C K L A x key W) : A ∉ blocks p G := by
  intro hm
  have hb := h.act
  rcases mem_blocks.1 hm with e | ⟨q, hq, e⟩
  · rw [e, h.s.obj] at hb; simp at hb
  · obtain ⟨cur, hc, _⟩ := h.s.rows q hq
    rw [e, hc] at hb; simp at hb
theorem Pt.nXA (h : Pt w p G Q X R C K L A x key W) : X ≠ A := by
  intro e
  have hb := h.bx
  rw [e, h.act] at hb; simp at hb
theorem Pt.nR (h : Pt w p G Q X R C K L A x key W) {r : Nat} (hr : r < 4) : R r ≠ X ∧ R r ≠ A := by
  obtain ⟨cur, hc, _⟩ := h.r r hr
  refine ⟨fun e => ?_, fun e => ?_⟩
  · rw [e, h.bx] at hc; simp at hc
  · rw [e, h.act] at hc; simp at hc
theorem Pt.below {W' : World} (h : Pt w p G Q X R C K L A x key W) (b : Below W.heap.size W W') : Pt w p G Q X R C K L A x key W' :=
  ⟨h.bel.trans (b.mono h.bel.size), h.s.below b, h.r.below b, (b.block _ (lt_of_heap h.bx)).trans h.bx, (b.block _ (lt_of_heap h.act)).trans h.act, h.os, h.oX, h.oA⟩
/-- The sketch was changed. -/
theorem Pt.real {W' : World} {K' : Sk} (h : Pt w p G Q X R C K L A x key W) (k : Keeps (blocks p G) W W') (t : IsSk W' p G Q K') : Pt w p G Q X R C K' L A x key W' :=
  ⟨h.bel.trans (k.below h.os h.bel.size), t, h.r.keep k (h.r.apart h.s), k.at h.bx h.nX, k.at h.act h.nA, h.os, h.oX, h.oA⟩
/-- Another block of one's own was changed. -/
theorem Pt.keep {W' : World} {S : List Nat} (h : Pt w p G Q X R C K L A x key W) (k : Keeps S W W') (hw : ∀ i ∈ S, w.heap.size ≤ i) (hb : ∀ i ∈ S, i ∉ blocks p G ∧ i ≠ X ∧ i ≠ A ∧ ∀ r, r < 4 → i ≠ R r) : Pt w p G Q X R C K L A x key W' :=
  ⟨h.bel.trans (k.below hw h.bel.size), h.s.keep k (fun i hi hj => (hb i hj).1 hi), h.r.keep k (fun r hr hj => (hb _ hj).2.2.2 r hr rfl), k.at h.bx (fun hj => (hb _ hj).2.1 rfl), k.at h.act (fun hj => (hb _ hj).2.2.1 rfl), h.os, h.oX, h.oA⟩
/-- The copy is used from here on. -/
theorem Pt.copy {W' : World} {p' : Nat} {G' Q' : Nat → Nat} {K' : Sk} (h : Pt w p G Q X R C K L A x key W) (b : Below W.heap.size W W') (o : ∀ i ∈ blocks p' G', W.heap.size ≤ i) (t : IsSk W' p' G' Q' K') : Pt w p' G' Q' X R C K' L A x key W' :=
  ⟨h.bel.trans (b.mono h.bel.size), t, h.r.below b, (b.block _ (lt_of_heap h.bx)).trans h.bx, (b.block _ (lt_of_heap h.act)).trans h.act, fun i hi => Nat.le_trans h.bel.size (o i hi), h.oX, h.oA⟩
/-- Another reference sketch was stored in the box. -/
theorem Pt.store {R' C' : Nat → Nat} {M : Sk} (h : Pt w p G Q X R C K L A x key W) (r : IsRef W R' C' M) : Pt w p G Q X R' C' K M A x key ((((((((W.setCell ⟨X, 0, none⟩ (.int .i64 (M.n : Nat))).setCell ⟨X, 1, none⟩ (.int .i64 (M.s : Nat))).setCell ⟨X, 2, none⟩ (.int .i64 (M.a : Nat))).setCell ⟨X, 3, none⟩ (.int .u64 M.seed)).setCell ⟨X, 4, none⟩ (.slice (some ⟨R' 0, 0, none⟩) M.n (C' 0))).setCell ⟨X, 5, none⟩ (.slice (some ⟨R' 1, 0, none⟩) M.n (C' 1))).setCell ⟨X, 6, none⟩ (.slice (some ⟨R' 2, 0, none⟩) M.n (C' 2))).setCell ⟨X, 7, none⟩ (.slice (some ⟨R' 3, 0, none⟩) M.n (C' 3))) := by
  have hx : ∀ i ∈ blocks p G, i ∉ [X] := fun i hi hj => by
    obtain rfl : i = X := by simpa using hj
    exact h.nX hi
  have k : Keeps [X] W ((((((((W.setCell ⟨X, 0, none⟩ (.int .i64 (M.n : Nat))).setCell ⟨X, 1, none⟩ (.int .i64 (M.s : Nat))).setCell ⟨X, 2, none⟩ (.int .i64 (M.a : Nat))).setCell ⟨X, 3, none⟩ (.int .u64 M.seed)).setCell ⟨X, 4, none⟩ (.slice (some ⟨R' 0, 0, none⟩) M.n (C' 0))).setCell ⟨X, 5, none⟩ (.slice (some ⟨R' 1, 0, none⟩) M.n (C' 1))).setCell ⟨X, 6, none⟩ (.slice (some ⟨R' 2, 0, none⟩) M.n (C' 2))).setCell ⟨X, 7, none⟩ (.slice (some ⟨R' 3, 0, none⟩) M.n (C' 3))) := ((((((((Keeps.refl _ _).setCell (.inl (by simp)) _).setCell (.inl (by simp)) _).setCell (.inl (by simp)) _).setCell (.inl (by simp)) _).setCell (.inl (by simp)) _).setCell (.inl (by simp)) _).setCell (.inl (by simp)) _).setCell (.inl (by simp)) _
  refine ⟨h.bel.trans (k.below (by simpa using h.oX) h.bel.size), h.s.keep k hx, r.keep k (fun q hq hj => ?_), heap_fill8 h.bx _ _ _ _ _ _ _ _, k.at h.act (by simpa using Ne.symm h.nXA), h.os, h.oX, h.oA⟩
  obtain ⟨cur, hc, _⟩ := r q hq
  have e : R' q = X := by simpa using hj
  rw [e, h.bx] at hc; simp at hc
end
end Go.Proofs.Ytffniljefbpoiaa
