/-
  Appending entries and slots; the contracts of slices.Grow, Concat and Clone at entries.
-/
import Derived.Test.YteibleghnadelaaA
import Derived.Test.YteibleghnadelaaM
import Derived.Lib.AppendZerosOnto
import Derived.Deep.DeepAppendWide
namespace Go.Proofs.Yteibleghnadelaa
open Go.ChangeShapes Go.WideShapes Go.ChangeAt Go.RowKit
set_option linter.unusedVariables false

theorem info34 : (Try.prog.info? 34).map (fun i => (i.zero, i.size, i.bytes)) = some (some (.agg #[.int .u32 0, .int .i64 0]), 2, 16) := by kernel_rfl
theorem info25 : (Try.prog.info? 25).map (fun i => (i.zero, i.size, i.bytes)) = some (some (.int .u32 0), 1, 4) := by kernel_rfl
theorem load0 (a : Addr) (w : World) : Sem.run Try.prog (loadCells a 0) w = .ok #[] w := by
  exact run_loadCells w a 0 (fun _ => .bool false) (fun j h => absurd h (by omega))
/-- What an append of entries leaves. -/
theorem app_ents {w : World} {B n c m : Nat} {v : Value} {L M : List (Int × Int)} {s : Option Addr} (own : w.ownsRow B 34 2 v n (entsL L)) (hm : M.length = m) (hE : Ents w s M) (hb : B ≤ w.heap.size) (h1 : n + m ≤ 1000) (ty : TypeId) :
    ∃ v' w', (Builtin.append_ #[22, 22] ty #[v, .slice s m c]).run Try.prog w = .ok v' w' ∧ w'.ownsRow B 34 2 v' (n + m) (entsL (L ++ M)) ∧ w.grownBy w' v.ownBlock ∧ (v' = .slice none 0 0 ↔ v = .slice none 0 0 ∧ m = 0) := by
  obtain ⟨i, hi, hz, hs, hby⟩ := info_parts info34
  rcases Nat.eq_zero_or_pos m with h0 | h0
  · subst h0
    obtain rfl : M = [] := List.eq_nil_of_length_eq_zero hm
    refine ⟨v, w, ?_, by simpa using own, ⟨rfl, rfl, rfl, Nat.le_refl _, fun _ _ _ => rfl⟩, by simp⟩
    obtain ⟨A, c2, rfl⟩ := own_shape own
    have hnc : n ≤ c2 := by
      rcases own.2 with ⟨q, q0⟩ | ⟨g, c3, cur, q, _, _, hn, _⟩
      · simp at q; omega
      · simp at q; omega
    cases A <;> cases s <;> simp [Builtin.append_, run_underlying Try.underlying22, sizeOf, typeInfo, hi, Builtin.lenOf, Builtin.firstCells, hnc, storeCells, load0, Result.andThen]
  · obtain ⟨b, off, rfl, hlt, hn⟩ := hE.news (by omega)
    obtain ⟨v', w', hr, ho, hg, hnil⟩ := run_append_own_wide (P := Try.prog) (w := w) B 22 ty 34 i _ 2 16 Try.underlying22 hi hz hs hby rfl (by decide) v n _ own ⟨b, off, none⟩ m c (entsL M) (by rw [entsL_length, hm]) hn (entsL_cells M) (by unfold maxLen; omega) (by omega) hb
    exact ⟨v', w', hr, by rw [entsL_append]; exact ho, hg, hnil⟩
/-- Slots. -/
def slotsL (l : List Int) : List Value := l.map (Value.int .u32)
def Slots (w : World) (s : Option Addr) (L : List Int) : Prop :=
  0 < L.length → ∃ b off, s = some ⟨b, off, none⟩ ∧ b < w.heap.size ∧ ∀ i x, L[i]? = some x → w.cell? ⟨b, off + i, none⟩ = some (.int .u32 x)
theorem Slots.block {w W : World} {s : Option Addr} {L : List Int} (h : Slots w s L) (hs : w.heap.size ≤ W.heap.size) (hk : ∀ b off, s = some ⟨b, off, none⟩ → b < w.heap.size → W.heap[b]? = w.heap[b]?) : Slots W s L := fun h0 => by
  obtain ⟨b, off, e, hb, hc⟩ := h h0
  have := hk b off e hb
  exact ⟨b, off, e, by omega, fun i x hx => by rw [cell_block this]; exact hc i x hx⟩
theorem Slots.below {w W : World} {B : Nat} {s : Option Addr} {L : List Int} (h : Slots w s L) (k : Below B w W) (hB : w.heap.size ≤ B) : Slots W s L :=
  h.block k.size (fun b off _ hb => k.block b (by omega))
theorem Slots.get {w : World} {s : Option Addr} {L : List Int} (h : Slots w s L) {i : Nat} {x : Int} (hx : L[i]? = some x) : ∃ b off, s = some ⟨b, off, none⟩ ∧ b < w.heap.size ∧ w.cell? ⟨b, off + i, none⟩ = some (.int .u32 x) := by
  have hi : i < L.length := (List.getElem?_eq_some_iff.1 hx).1
  obtain ⟨b, off, e, hb, hc⟩ := h (by omega)
  exact ⟨b, off, e, hb, hc i x hx⟩
theorem Slots.of_owns {w : World} {B n c : Nat} {e : TypeId} {A : Option Addr} {L : List Int} (h : w.ownsRow B e 1 (.slice A n c) n (slotsL L)) : L.length = n ∧ Slots w A L := by
  obtain ⟨hl, ⟨h, h0⟩ | ⟨g, c', cur, h, hb, hh, hn, hm, hs, ht⟩⟩ := h
  · unfold slotsL at hl; rw [List.length_map] at hl
    have : L.length = 0 := by omega
    exact ⟨by omega, fun q => by omega⟩
  · obtain ⟨rfl, rfl⟩ : A = some ⟨g, 0, none⟩ ∧ c = c' := by simpa using h
    unfold slotsL at hl; rw [List.length_map] at hl
    have hL : L.length = n := by omega
    refine ⟨hL, fun q => ⟨g, 0, rfl, lt_of_heap hh, fun i x hx => ?_⟩⟩
    have hi : i < L.length := (List.getElem?_eq_some_iff.1 hx).1
    have h1 : (slotsL L)[i]? = some (.int .u32 x) := by unfold slotsL; rw [List.getElem?_map, hx]; rfl
    rw [← ht, List.getElem?_take_of_lt (by omega)] at h1
    rw [Nat.zero_add, cell_of hh]
    simpa using h1
theorem Slots.news {w : World} {s : Option Addr} {L : List Int} (h : Slots w s L) (h0 : 0 < L.length) : ∃ b off, s = some ⟨b, off, none⟩ ∧ b < w.heap.size ∧ ∀ j u, (slotsL L)[j]? = some u → w.cell? ((⟨b, off, none⟩ : Addr).add j) = some u := by
  obtain ⟨b, off, e, hb, hc⟩ := h h0
  refine ⟨b, off, e, hb, fun j u hj => ?_⟩
  unfold slotsL at hj
  rw [List.getElem?_map] at hj
  obtain ⟨x, hx, rfl⟩ := Option.map_eq_some_iff.1 hj
  rw [add_at]; exact hc j x hx
theorem app_slots {w : World} {B n c m : Nat} {v : Value} {L M : List Int} {s : Option Addr} (own : w.ownsRow B 25 1 v n (slotsL L)) (hm : M.length = m) (hE : Slots w s M) (hb : B ≤ w.heap.size) (h1 : n + m ≤ 1000) (ty : TypeId) :
    ∃ v' w', (Builtin.append_ #[39, 39] ty #[v, .slice s m c]).run Try.prog w = .ok v' w' ∧ w'.ownsRow B 25 1 v' (n + m) (slotsL (L ++ M)) ∧ w.grownBy w' v.ownBlock ∧ (v' = .slice none 0 0 ↔ v = .slice none 0 0 ∧ m = 0) := by
  obtain ⟨i, hi, hz, hs, hby⟩ := info_parts info25
  rcases Nat.eq_zero_or_pos m with h0 | h0
  · subst h0
    obtain rfl : M = [] := List.eq_nil_of_length_eq_zero hm
    refine ⟨v, w, ?_, by simpa using own, ⟨rfl, rfl, rfl, Nat.le_refl _, fun _ _ _ => rfl⟩, by simp⟩
    obtain ⟨A, c2, rfl⟩ := own_shape own
    have hnc : n ≤ c2 := by
      rcases own.2 with ⟨q, q0⟩ | ⟨g, c3, cur, q, _, _, hn, _⟩
      · simp at q; omega
      · simp at q; omega
    cases A <;> cases s <;> simp [Builtin.append_, run_underlying Try.underlying39, sizeOf, typeInfo, hi, Builtin.lenOf, Builtin.firstCells, hnc, storeCells, load0, Result.andThen]
  · obtain ⟨b, off, rfl, hlt, hn⟩ := hE.news (by omega)
    obtain ⟨v', w', hr, ho, hg, hnil⟩ := run_append_own_wide (P := Try.prog) (w := w) B 39 ty 25 i _ 1 4 Try.underlying39 hi hz hs hby rfl (by decide) v n _ own ⟨b, off, none⟩ m c (slotsL M) (by simp [slotsL, hm]) hn (fun u hu => by obtain ⟨x, _, rfl⟩ := List.mem_map.1 hu; rfl) (by unfold maxLen; omega) (by omega) hb
    exact ⟨v', w', hr, by unfold slotsL; rw [List.map_append]; exact ho, hg, hnil⟩
theorem Below.grown {B : Nat} {a w w' : World} {row : Option Nat} (h : Below B a w) (g : w.grownBy w' row) (hr : ∀ i, row = some i → B ≤ i) (hB : B ≤ w.heap.size) : Below B a w' :=
  ⟨g.os.trans h.os, g.tape.trans h.tape, g.output.trans h.output, Nat.le_trans h.size g.size, fun k hk => (g.block k (by omega) (fun e => by have := hr k e.symm; omega)).trans (h.block k hk)⟩
theorem own_block {w : World} {B n k : Nat} {e : TypeId} {v : Value} {xs : List Value} (h : w.ownsRow B e k v n xs) : ∀ i, v.ownBlock = some i → B ≤ i := fun i hi => by
  obtain ⟨_, ⟨rfl, _⟩ | ⟨g, c', cur, rfl, hb, _⟩⟩ := h
  · cases hi
  · simp [Value.ownBlock] at hi; omega
theorem own_mono {w : World} {base base' : Nat} {e : TypeId} {size : Nat} {v : Value} {n : Nat} {xs : List Value} (h : w.ownsRow base e size v n xs) (hb : base' ≤ base) : w.ownsRow base' e size v n xs :=
  ⟨h.1, h.2.imp id fun ⟨g, c, cur, q1, q2, q⟩ => ⟨g, c, cur, q1, Nat.le_trans hb q2, q⟩⟩
theorem own_below {w W : World} {base B : Nat} {e : TypeId} {size : Nat} {v : Value} {n : Nat} {xs : List Value} (h : w.ownsRow base e size v n xs) (k : Below B w W) (hB : w.heap.size ≤ B) : W.ownsRow base e size v n xs :=
  ⟨h.1, h.2.imp id fun ⟨g, c, cur, q1, q2, hh, q⟩ => ⟨g, c, cur, q1, q2, (k.block g (by have := lt_of_heap hh; omega)).trans hh, q⟩⟩

theorem grow_nil (w : World) : Calls Try.prog 35 #[.slice none 0 0, .int .i64 0] w fun e w' => e = .returned (.slice none 0 0) ∧ w = w' := by
  go_enter Try.func35, Try.ntmps35
  go_wp2_with fail
  go_ret
  exact ⟨rfl, rfl⟩
theorem grow_new (n : Nat) (w : World) (h0 : 0 < n) (h1 : n ≤ 1000) :
    Calls Try.prog 35 #[.slice none 0 0, .int .i64 (n : Nat)] w fun e w' => ∃ g c, e = .returned (.slice (some ⟨g, 0, none⟩) 0 c) ∧ n ≤ c ∧ w'.ownsRow w.heap.size 34 2 (.slice (some ⟨g, 0, none⟩) 0 c) 0 (entsL []) ∧ Below w.heap.size w w' := by
  obtain ⟨i, hi, hz, hs, hby⟩ := info_parts info34
  have hold : (Builtin.firstCells i.size 0 (.slice none 0 0)).run Try.prog w.drew = .ok (([] : List Value).toArray) w.drew := by rw [hs]; rfl
  have hG := grownCap_ge w (0 + n) 0 34
  have hG2 := grownCap_le_maxLen w (0 + n) 0 34 (by unfold maxLen; omega)
  have hrz : ∀ ty, (Builtin.append_ #[22, 3] ty #[.slice none 0 0, .int .i64 (n : Nat)]).run Try.prog w = _ := fun ty =>
    Lib.run_append_grow_zeros w 22 3 ty 34 i _ .i64 .i64 Try.underlying22 Try.underlying3 hi hz none 0 0 [] hold n h0 (by omega) (by omega) (by omega) (by rw [hby]; omega) (growslice_fits (by omega) (by rw [hby]; omega))
  generalize grownCap w (0 + n) 0 34 = G at *
  unfold maxLen at hG2
  clear hold
  go_enter Try.func35, Try.ntmps35
  go_wp2_with (at_builtin; refine Lib.wpList_append_run _ rfl _ _ _ _ rfl _ _ rfl rfl _ _ (hrz _) ?_)
  all_goals go_ret
  all_goals refine ⟨_, _, rfl, by omega, ⟨rfl, .inr ⟨_, _, _, rfl, Nat.le_refl _, heap_new rfl, Nat.zero_le _, by unfold maxLen; omega, ?_, rfl⟩⟩, (Below.refl _ _).drew.alloc (Nat.le_refl _) _⟩
  all_goals (simp [size_zeroCells]; omega)
end Go.Proofs.Yteibleghnadelaa
