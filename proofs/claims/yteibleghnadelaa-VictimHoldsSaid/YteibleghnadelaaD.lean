/-
  The contracts of the closure of order, of slices.IndexFunc and DeleteFunc at entries.
-/
import Derived.Test.YteibleghnadelaaC
namespace Go.Proofs.Yteibleghnadelaa
open Go.ChangeShapes Go.WideShapes Go.ChangeAt Go.RowKit
set_option linter.unusedVariables false

def envv (x : Int × Int) : Value := .agg #[.int .u32 x.1, .int .i64 x.2]
theorem del_is (x : Int × Int) (k : Int) {p : Nat} {w : World} (hp : w.cell? ⟨p, 1, none⟩ = some (.int .u32 k)) (hlt : p < w.heap.size) :
    Calls Try.prog 34 #[.agg #[.int .u32 x.1, .int .i64 x.2], .pointer (some ⟨p, 0, none⟩)] w fun e w' => e = .returned (.bool (decide (x.1 = k))) ∧ Below w.heap.size w w' := by
  go_enter Try.func34, Try.ntmps34
  go_wp2_with fail
  go_ret
  refine ⟨?_, (Below.refl _ _).alloc (Nat.le_refl _) _⟩
  apply ret_bool
  first | rfl | (simp; done)
/-- A row after some of its cells were set. -/
theorem heap_setCells {g : Nat} {T : TypeId} {f : Nat × Nat} : ∀ (vs : List Value) (o : Nat) (w : World) (cs : Array Value), w.heap[g]? = some (.cells cs T f) →
    ∃ cs', (w.setCells g o vs).heap[g]? = some (.cells cs' T f) ∧ cs'.size = cs.size ∧ ∀ j, j < o → cs'[j]? = cs[j]?
  | [], o, w, cs, h => ⟨cs, h, rfl, fun _ _ => rfl⟩
  | v :: vs, o, w, cs, h => by
    obtain ⟨cs', h1, h2, h3⟩ := heap_setCells vs (o + 1) _ _ (heap_set (i := o) h v)
    refine ⟨cs', h1, by rw [h2]; simp, fun j hj => ?_⟩
    rw [h3 j (by omega), Array.getElem?_setIfInBounds_ne (by omega)]
theorem keeps_setCells {g : Nat} : ∀ (vs : List Value) (o : Nat) (w : World), Keeps [g] w (w.setCells g o vs)
  | [], o, w => Keeps.refl _ _
  | v :: vs, o, w => ((Keeps.refl [g] w).setCell (ad := ⟨g, o, none⟩) (.inl (by simp)) v).trans (keeps_setCells vs (o + 1) _) (fun i hi => .inl hi)
theorem zero34 (w : World) : (zeroValue 34).run Try.prog w = .ok (.agg #[.int .u32 0, .int .i64 0]) w := by
  obtain ⟨i, hi, hz, hs, hby⟩ := info_parts info34
  simp [zeroValue, typeInfo, hi, hz]
/-- Clearing the end of a row. -/
theorem clear_is {w : World} {B g n c i m c' : Nat} {F : List (Int × Int)} (own : w.ownsRow B 34 2 (.slice (some ⟨g, 0, none⟩) n c) n (entsL F)) (hm : 0 < m) (him : i + m = n) (ty : TypeId) :
    ∃ w', (Builtin.clear_ #[22] ty #[.slice (some ⟨g, i * 2, none⟩) m c']).run Try.prog w = .ok (.tuple #[]) w' ∧ w'.ownsRow B 34 2 (.slice (some ⟨g, 0, none⟩) i c) i (entsL (F.take i)) ∧ Keeps [g] w w' := by
  obtain ⟨hl, ⟨h, h0⟩ | ⟨g', c2, cur, h, hb, hh, hn, hmx, hs, ht⟩⟩ := own
  · cases h
  obtain ⟨rfl, rfl⟩ : g = g' ∧ c = c2 := by simpa using h
  have hfz : ∀ j, w.frozen? ⟨g, j, none⟩ = false := frozen_of hh
  have hst := run_storeCells_cells (P := Try.prog) g (i * 2) (Builtin.zeroCells #[.int .u32 0, .int .i64 0] m).toList 0 w (fun j hj => by
    rw [cell_of hh]
    have hj : j < m * 2 := by simpa [size_zeroCells] using hj
    rw [Array.getElem?_eq_getElem (by omega)]; rfl) (fun j _ => hfz _) (fun v hv => by
    have : v ∈ Builtin.zeroCells #[.int .u32 0, .int .i64 0] m := by simpa using hv
    unfold Builtin.zeroCells at this
    simp at this
    obtain ⟨a, ha, rfl⟩ := this
    rcases Nat.mod_two_eq_zero_or_one a with q | q <;> simp [q] <;> rfl)
  simp only [Nat.add_zero] at hst
  obtain ⟨cs', k1, k2, k3⟩ := heap_setCells (Builtin.zeroCells #[.int .u32 0, .int .i64 0] m).toList (i * 2) w cur hh
  obtain ⟨m', rfl⟩ : ∃ m', m = m' + 1 := ⟨m - 1, by omega⟩
  have hlF : F.length = n := by rw [entsL_length] at hl; omega
  refine ⟨_, ?_, ⟨by rw [entsL_length, List.length_take]; omega, .inr ⟨g, c, cs', rfl, hb, k1, by omega, hmx, by rw [k2, hs], ?_⟩⟩, keeps_setCells _ _ _⟩
  · have hc : (Value.agg #[.int .u32 0, .int .i64 0]).cells = #[.int .u32 0, .int .i64 0] := rfl
    simp [Builtin.clear_, run_underlying Try.underlying22, hc, hst]
  · have e : entsL (F.take i) = (entsL F).take (i * 2) := by
      have e1 : entsL F = entsL (F.take i) ++ entsL (F.drop i) := by rw [← entsL_append, List.take_append_drop]
      rw [e1]; exact (List.take_left' (by rw [entsL_length, List.length_take]; omega)).symm
    rw [e, ← ht, List.take_take, Nat.min_eq_left (by omega)]
    apply List.ext_getElem?
    intro j
    by_cases hj : j < i * 2
    · rw [List.getElem?_take_of_lt hj, List.getElem?_take_of_lt hj]
      have := k3 j hj
      simpa using this
    · rw [List.getElem?_eq_none (by simp; omega), List.getElem?_eq_none (by simp; omega)]
/-- Storing one entry. -/
theorem own_set {w : World} {B g n c i : Nat} {F : List (Int × Int)} (own : w.ownsRow B 34 2 (.slice (some ⟨g, 0, none⟩) n c) n (entsL F)) (hi : i < n) (x : Int × Int) :
    ((w.setCell ⟨g, i * 2, none⟩ (.int .u32 x.1)).setCell ⟨g, i * 2 + 1, none⟩ (.int .i64 x.2)).ownsRow B 34 2 (.slice (some ⟨g, 0, none⟩) n c) n (entsL (F.set i x)) := by
  obtain ⟨hl, ⟨h, h0⟩ | ⟨g', c2, cur, h, hb, hh, hn, hmx, hs, ht⟩⟩ := own
  · cases h
  obtain ⟨rfl, rfl⟩ : g = g' ∧ c = c2 := by simpa using h
  have hlF : F.length = n := by rw [entsL_length] at hl; omega
  refine ⟨by rw [entsL_length] at hl ⊢; simpa using hl, .inr ⟨g, c, _, rfl, hb, heap_set (heap_set hh _) _, hn, hmx, by simpa using hs, ?_⟩⟩
  rw [← entsL_set (by omega), ← ht]
  simp only [Array.toList_setIfInBounds, List.take_set]
theorem own_cells {w : World} {B g n c i : Nat} {F : List (Int × Int)} {x : Int × Int} (own : w.ownsRow B 34 2 (.slice (some ⟨g, 0, none⟩) n c) n (entsL F)) (hx : F[i]? = some x) :
    w.cell? ⟨g, i * 2, none⟩ = some (.int .u32 x.1) ∧ w.cell? ⟨g, i * 2 + 1, none⟩ = some (.int .i64 x.2) := by
  obtain ⟨b, off, e, _, q1, q2⟩ := (Ents.of_owns own).2.get hx
  obtain ⟨rfl, rfl⟩ : g = b ∧ 0 = off := by simpa using e
  rw [Nat.zero_add] at q1 q2
  exact ⟨q1, q2⟩
theorem own_frozen {w : World} {B g n c : Nat} {F : List (Int × Int)} (own : w.ownsRow B 34 2 (.slice (some ⟨g, 0, none⟩) n c) n (entsL F)) (j : Nat) : w.frozen? ⟨g, j, none⟩ = false := by
  obtain ⟨hl, ⟨h, h0⟩ | ⟨g', c2, cur, h, hb, hh, hn, hmx, hs, ht⟩⟩ := own
  · cases h
  obtain ⟨rfl, rfl⟩ : g = g' ∧ c = c2 := by simpa using h
  exact frozen_of hh j
theorem index_is {s : Option Addr} {n c p : Nat} {k : Int} {L : List (Int × Int)} {w : World} (hE : Ents w s L) (hL : L.length = n) (h1 : n ≤ 1000) (hp : w.cell? ⟨p, 1, none⟩ = some (.int .u32 k)) (hlt : p < w.heap.size) :
    Calls Try.prog 36 #[.slice s n c, .func (.func 34) #[] #[.pointer (some ⟨p, 0, none⟩)]] w fun e w' => (∃ i : Int, e = .returned (.int .i64 i) ∧ ((i = -1 ∧ ∀ x ∈ L, x.1 ≠ k) ∨ ∃ (j : Nat) (x : Int × Int), i = (j : Nat) ∧ L[j]? = some x ∧ x.1 = k ∧ ∀ y ∈ L.take j, y.1 ≠ k)) ∧ Below w.heap.size w w' := by
  go_enter Try.func36, Try.ntmps36
  go_wp2_with fail
  go_loopw [8] (fun x wr => ∃ j : Nat, j ≤ n ∧ x = .int .i64 (j : Nat) ∧ (∀ y ∈ L.take j, y.1 ≠ k) ∧ Below w.heap.size w wr) (fun x _ => n + 1 - (intOf x).toNat)
  case atStart => exact ⟨0, by omega, rfl, by simp, Below.refl _ _⟩
  case round =>
    obtain ⟨j, hj, rfl, hno, bw⟩ := hrel
    by_cases hjn : j < n
    · obtain ⟨x, hx⟩ : ∃ x, L[j]? = some x := ⟨_, List.getElem?_eq_getElem (by omega)⟩
      obtain ⟨b, off, rfl, hb, q1, q2⟩ := (hE.below bw (Nat.le_refl _)).get hx
      have C := del_is x k ((bw.cell (p := ⟨p, 1, none⟩) hlt).trans hp) (Nat.lt_of_lt_of_le hlt bw.size)
      have Hno := Lib.hid hno
      clear hno
      by_cases hk : x.1 = k
      · rw [decide_eq_true hk] at C
        have Hk := Lib.hid hk
        clear hk
        go_wp2_with (first | (go_at_call 34; refine C.mono ?_; clear C; rintro e w2 ⟨rfl, b2⟩))
        go_ret
        exact ⟨⟨_, rfl, .inr ⟨j, x, rfl, hx, Hk.out, Hno.out⟩⟩, bw.trans (b2.mono bw.size)⟩
      · rw [decide_eq_false hk] at C
        have Hk := Lib.hid hk
        clear hk
        go_wp2_with (first | (go_at_call 34; refine C.mono ?_; clear C; rintro e w2 ⟨rfl, b2⟩))
        go_roundw
        case rel => exact ⟨j + 1, by omega, by go_num, fun y hy => by
          rw [List.take_add_one, hx] at hy
          rcases List.mem_append.1 hy with q | q
          · exact Hno.out y q
          · simp at q; subst q; exact Hk.out, bw.trans (b2.mono bw.size)⟩
        all_goals (simp [intOf]; omega)
    · obtain rfl : n = j := by omega
      have Hno := Lib.hid hno
      clear hno
      go_wp2_with fail
      go_ret
      exact ⟨⟨_, rfl, .inl ⟨rfl, fun y hy => Hno.out y (by rw [List.take_of_length_le (by omega)]; exact hy)⟩⟩, bw⟩
end Go.Proofs.Yteibleghnadelaa
