/-
  Frames and rows of entries: what a world holds of them, and what changes keep it.
-/
import Derived.Test.YteibleghnadelaaRows
import Derived.WalkKit
import Derived.ProofKit
import Derived.OpenShut
import Derived.ShutString
import Derived.Outline
import Derived.WalkLawsBesides
import Derived.BigQuiet
import Derived.Deep.QuietTactic
import Derived.Lib.Hide
import Derived.Laws.Bits64
import Derived.Laws.BitsAllLaws
import Derived.StillTailTactics
import Derived.Deep.RegionWith
import Derived.Deep.RegionHeld3
import Derived.Deep.Cut
import Derived.Deep.AppendLies
import Derived.OwnWalk
import Derived.Maps.AppendAt
import Derived.Maps.OwnSet
namespace Go.Proofs.Yteibleghnadelaa
open Go.ChangeShapes Go.WideShapes Go.ChangeAt Go.RowKit
set_option linter.unusedVariables false

theorem ret_i64 {a b : Int} (h : a = b) : Ending.returned (.int .i64 a) = .returned (.int .i64 b) := by rw [h]
theorem ret_bool {a b : Bool} (h : a = b) : Ending.returned (.bool a) = .returned (.bool b) := by rw [h]
theorem wrap_in {x : Int} (h : -9223372036854775808 ≤ x ∧ x ≤ 9223372036854775807) : wrap64 x = x := IntWalk.wrap64_in x h
theorem wp_seen {P : Program} {c : Code} {Q : Exit → Act → World → Prop} {a : Act} {w : World} (S : World → Prop) (hS : S w) (h : ∀ W, S W → Code.wp P c Q a W) : Code.wp P c Q a w := h w hS
theorem ex_seen {Q : Exit → Act → World → Prop} {e : Exit} {a : Act} {w : World} (S : World → Prop) (hS : S w) (h : ∀ W, S W → Q e a W) : Q e a w := h w hS
theorem post_seen {P : Program} {fn : Func} {R : Ending → World → Prop} {a : Act} {w : World} (S : World → Prop) (hS : S w) (h : ∀ W, S W → bodyPost P fn R .ret a W) : bodyPost P fn R .ret a w := h w hS

/-- What may change: the listed blocks. -/
structure Keeps (S : List Nat) (w w' : World) : Prop where
  os : w'.os = w.os
  tape : w'.tape = w.tape
  output : w'.output = w.output
  size : w.heap.size ≤ w'.heap.size
  block : ∀ k, k < w.heap.size → k ∉ S → w'.heap[k]? = w.heap[k]?
theorem lt_of_heap {w : World} {p : Nat} {o : Obj} (h : w.heap[p]? = some o) : p < w.heap.size := (Array.getElem?_eq_some_iff.1 h).1
theorem Keeps.refl (S : List Nat) (w : World) : Keeps S w w := ⟨rfl, rfl, rfl, Nat.le_refl _, fun _ _ _ => rfl⟩
theorem Keeps.trans {S T : List Nat} {a b c : World} (h : Keeps S a b) (k : Keeps T b c) (hT : ∀ i ∈ T, i ∈ S ∨ a.heap.size ≤ i) : Keeps S a c :=
  ⟨k.os.trans h.os, k.tape.trans h.tape, k.output.trans h.output, Nat.le_trans h.size k.size, fun i hi hs => (k.block i (Nat.lt_of_lt_of_le hi h.size) (fun ht => by rcases hT i ht with q | q; exact hs q; omega)).trans (h.block i hi hs)⟩
theorem Keeps.weak {S T : List Nat} {a b : World} (h : Keeps S a b) (hT : ∀ i ∈ S, i ∈ T ∨ a.heap.size ≤ i) : Keeps T a b := (Keeps.refl T a).trans h hT
theorem Keeps.of_below {S : List Nat} {a b : World} (h : Below a.heap.size a b) : Keeps S a b := ⟨h.os, h.tape, h.output, h.size, fun k hk _ => h.block k hk⟩
theorem Keeps.below {S : List Nat} {B : Nat} {a b : World} (h : Keeps S a b) (hS : ∀ i ∈ S, B ≤ i) (hB : B ≤ a.heap.size) : Below B a b := ⟨h.os, h.tape, h.output, h.size, fun k hk => h.block k (by omega) (fun hk' => by have := hS k hk'; omega)⟩
theorem Keeps.alloc {S : List Nat} {a w : World} (h : Keeps S a w) (o : Obj) : Keeps S a (w.alloc o) :=
  h.trans (Keeps.of_below (S := []) ((Below.refl _ _).alloc (Nat.le_refl _) o)) (by simp)
theorem Keeps.drew {S : List Nat} {a w : World} (h : Keeps S a w) : Keeps S a w.drew := ⟨h.os, h.tape, h.output, h.size, h.block⟩
theorem Keeps.drewN {S : List Nat} {a w : World} (h : Keeps S a w) (n : Nat) : Keeps S a (w.drewN n) := ⟨h.os, h.tape, h.output, h.size, h.block⟩
theorem size_set {w : World} (a : Addr) (u : Value) : (w.setCell a u).heap.size = w.heap.size := by simp [World.setCell]
theorem Keeps.setCell {S : List Nat} {a w : World} (h : Keeps S a w) {ad : Addr} (hb : ad.block ∈ S ∨ a.heap.size ≤ ad.block) (u : Value) : Keeps S a (w.setCell ad u) :=
  ⟨h.os, h.tape, h.output, by rw [size_set]; exact h.size, fun k hk hp => (Below.heap_setCell w _ u k (fun e => by subst e; rcases hb with q | q; exact hp q; omega)).trans (h.block k hk hp)⟩
theorem Keeps.grown {S : List Nat} {a w w' : World} {row : Option Nat} (h : Keeps S a w) (g : w.grownBy w' row) (hr : ∀ i, row = some i → i ∈ S ∨ a.heap.size ≤ i) : Keeps S a w' :=
  ⟨g.os.trans h.os, g.tape.trans h.tape, g.output.trans h.output, Nat.le_trans h.size g.size, fun k hk hp => (g.block k (Nat.lt_of_lt_of_le hk h.size) (fun e => by rcases hr k e.symm with q | q; exact hp q; omega)).trans (h.block k hk hp)⟩
theorem Keeps.at {S : List Nat} {w w' : World} (h : Keeps S w w') {p : Nat} {o : Obj} (hp : w.heap[p]? = some o) (hs : p ∉ S) : w'.heap[p]? = some o := (h.block p (lt_of_heap hp) hs).trans hp

theorem heap_new {w : World} {n : Nat} {o : Obj} (h : n = w.heap.size) : (w.alloc o).heap[n]? = some o := by
  subst h; show (w.heap.push _)[w.heap.size]? = _; simp
theorem heap_alloc {w : World} {p : Nat} {o : Obj} (h : w.heap[p]? = some o) (o' : Obj) : (w.alloc o').heap[p]? = some o := (Below.heap_alloc w o' p (lt_of_heap h)).trans h
theorem heap_drew {w : World} {p : Nat} {o : Obj} (h : w.heap[p]? = some o) : w.drew.heap[p]? = some o := h
theorem heap_set {w : World} {p i : Nat} {cs : Array Value} {T : TypeId} {f : Nat × Nat} (h : w.heap[p]? = some (.cells cs T f)) (u : Value) :
    (w.setCell ⟨p, i, none⟩ u).heap[p]? = some (.cells (cs.setIfInBounds i u) T f) := by
  simp [World.setCell, Array.getElem?_modify, h]
theorem heap_other {w : World} {p q i : Nat} {o : Obj} (h : w.heap[p]? = some o) (hne : p ≠ q) (u : Value) : (w.setCell ⟨q, i, none⟩ u).heap[p]? = some o := (Below.heap_setCell w _ u p hne).trans h
theorem cell_of {w : World} {p : Nat} {cs : Array Value} {T : TypeId} {f : Nat × Nat} (h : w.heap[p]? = some (.cells cs T f)) (i : Nat) : w.cell? ⟨p, i, none⟩ = cs[i]? := by
  unfold World.cell?; rw [show w.heap[(⟨p, i, none⟩ : Addr).block]? = _ from h]; rfl
theorem frozen_of {w : World} {p : Nat} {cs : Array Value} {T : TypeId} (h : w.heap[p]? = some (.cells cs T (0, 0))) (i : Nat) : w.frozen? ⟨p, i, none⟩ = false := by
  unfold World.frozen?; rw [show w.heap[(⟨p, i, none⟩ : Addr).block]? = _ from h]; simp

/-- The cells of entries. -/
def enC (x : Int × Int) : List Value := [.int .u32 x.1, .int .i64 x.2]
def entsL (L : List (Int × Int)) : List Value := L.flatMap enC
theorem entsL_length (L : List (Int × Int)) : (entsL L).length = L.length * 2 := by
  induction L with
  | nil => rfl
  | cons x L ih => show (enC x ++ entsL L).length = _; rw [List.length_append, ih]; simp [enC]; omega
theorem entsL_append (A B : List (Int × Int)) : entsL (A ++ B) = entsL A ++ entsL B := by simp [entsL]
theorem entsL_get {L : List (Int × Int)} {i : Nat} {x : Int × Int} (h : L[i]? = some x) : (entsL L)[i * 2]? = some (.int .u32 x.1) ∧ (entsL L)[i * 2 + 1]? = some (.int .i64 x.2) := by
  induction L generalizing i with
  | nil => simp at h
  | cons y L ih =>
    show (enC y ++ entsL L)[i * 2]? = _ ∧ (enC y ++ entsL L)[i * 2 + 1]? = _
    cases i with
    | zero =>
      obtain rfl : y = x := by simpa using h
      exact ⟨rfl, rfl⟩
    | succ i =>
      have := ih (i := i) (by simpa using h)
      rw [List.getElem?_append_right (by simp [enC]; omega), List.getElem?_append_right (by simp [enC]; omega)]
      rw [show (i + 1) * 2 - (enC y).length = i * 2 by simp [enC]; omega, show (i + 1) * 2 + 1 - (enC y).length = i * 2 + 1 by simp [enC]; omega]
      exact this
theorem entsL_set {L : List (Int × Int)} {i : Nat} (hi : i < L.length) (x : Int × Int) : ((entsL L).set (i * 2) (.int .u32 x.1)).set (i * 2 + 1) (.int .i64 x.2) = entsL (L.set i x) := by
  induction L generalizing i with
  | nil => simp at hi
  | cons y L ih =>
    cases i with
    | zero => rfl
    | succ i =>
      show ((enC y ++ entsL L).set _ _).set _ _ = enC y ++ entsL (L.set i x)
      rw [← ih (by simpa using hi)]
      have e : ∀ m, (i + 1) * 2 + m = (enC y).length + (i * 2 + m) := fun m => by simp [enC]; omega
      rw [show (i + 1) * 2 = (enC y).length + (i * 2) by simp [enC]; omega, show (enC y).length + i * 2 + 1 = (enC y).length + (i * 2 + 1) by omega]
      rw [List.set_append_right _ _ (by omega), List.set_append_right _ _ (by omega)]
      simp only [Nat.add_sub_cancel_left]
theorem entsL_at {L : List (Int × Int)} {j : Nat} {u : Value} (h : (entsL L)[j]? = some u) : ∃ i x, L[i]? = some x ∧ ((j = i * 2 ∧ u = .int .u32 x.1) ∨ (j = i * 2 + 1 ∧ u = .int .i64 x.2)) := by
  have hj : j < L.length * 2 := by rw [← entsL_length]; exact (List.getElem?_eq_some_iff.1 h).1
  have hi : j / 2 < L.length := by omega
  have hx : L[j / 2]? = some L[j / 2] := List.getElem?_eq_getElem hi
  obtain ⟨h1, h2⟩ := entsL_get hx
  refine ⟨j / 2, _, hx, ?_⟩
  by_cases e : j % 2 = 0
  · rw [show j / 2 * 2 = j by omega, h] at h1
    exact .inl ⟨by omega, by simpa using h1⟩
  · rw [show j / 2 * 2 + 1 = j by omega, h] at h2
    exact .inr ⟨by omega, by simpa using h2⟩
/-- A slice that holds entries: some cells of a block. -/
def Ents (w : World) (s : Option Addr) (L : List (Int × Int)) : Prop :=
  0 < L.length → ∃ b off, s = some ⟨b, off, none⟩ ∧ b < w.heap.size ∧ ∀ i x, L[i]? = some x → w.cell? ⟨b, off + i * 2, none⟩ = some (.int .u32 x.1) ∧ w.cell? ⟨b, off + i * 2 + 1, none⟩ = some (.int .i64 x.2)
theorem cell_block {w W : World} {b off : Nat} (h : W.heap[b]? = w.heap[b]?) : W.cell? ⟨b, off, none⟩ = w.cell? ⟨b, off, none⟩ := by
  unfold World.cell?; rw [show W.heap[(⟨b, off, none⟩ : Addr).block]? = w.heap[(⟨b, off, none⟩ : Addr).block]? from h]
theorem Ents.nil {w : World} {s : Option Addr} : Ents w s [] := fun h => absurd h (by simp)
theorem Ents.block {w W : World} {s : Option Addr} {L : List (Int × Int)} (h : Ents w s L) (hs : w.heap.size ≤ W.heap.size) (hk : ∀ b off, s = some ⟨b, off, none⟩ → b < w.heap.size → W.heap[b]? = w.heap[b]?) : Ents W s L := fun h0 => by
  obtain ⟨b, off, e, hb, hc⟩ := h h0
  have := hk b off e hb
  exact ⟨b, off, e, by omega, fun i x hx => by rw [cell_block this, cell_block this]; exact hc i x hx⟩
theorem Ents.below {w W : World} {B : Nat} {s : Option Addr} {L : List (Int × Int)} (h : Ents w s L) (k : Below B w W) (hB : w.heap.size ≤ B) : Ents W s L :=
  h.block k.size (fun b off _ hb => k.block b (by omega))
theorem Ents.get {w : World} {s : Option Addr} {L : List (Int × Int)} (h : Ents w s L) {i : Nat} {x : Int × Int} (hx : L[i]? = some x) : ∃ b off, s = some ⟨b, off, none⟩ ∧ b < w.heap.size ∧ w.cell? ⟨b, off + i * 2, none⟩ = some (.int .u32 x.1) ∧ w.cell? ⟨b, off + i * 2 + 1, none⟩ = some (.int .i64 x.2) := by
  have hi : i < L.length := (List.getElem?_eq_some_iff.1 hx).1
  obtain ⟨b, off, e, hb, hc⟩ := h (by omega)
  exact ⟨b, off, e, hb, (hc i x hx).1, (hc i x hx).2⟩
theorem add_at (b off j : Nat) : (⟨b, off, none⟩ : Addr).add j = ⟨b, off + j, none⟩ := by unfold Addr.add; split <;> simp_all
/-- The cells for an append. -/
theorem Ents.news {w : World} {s : Option Addr} {L : List (Int × Int)} (h : Ents w s L) (h0 : 0 < L.length) : ∃ b off, s = some ⟨b, off, none⟩ ∧ b < w.heap.size ∧ ∀ j u, (entsL L)[j]? = some u → w.cell? ((⟨b, off, none⟩ : Addr).add j) = some u := by
  obtain ⟨b, off, e, hb, hc⟩ := h h0
  refine ⟨b, off, e, hb, fun j u hj => ?_⟩
  obtain ⟨i, x, hx, ⟨rfl, rfl⟩ | ⟨rfl, rfl⟩⟩ := entsL_at hj
  · rw [add_at]; exact (hc i x hx).1
  · rw [add_at, ← Nat.add_assoc]; exact (hc i x hx).2
theorem entsL_cells (L : List (Int × Int)) : ∀ u ∈ entsL L, u.oneCell' = true := fun u hu => by
  obtain ⟨j, hj⟩ := List.mem_iff_getElem?.1 hu
  obtain ⟨i, x, hx, ⟨_, rfl⟩ | ⟨_, rfl⟩⟩ := entsL_at hj <;> rfl
/-- What a call owns is a slice of entries. -/
theorem Ents.of_owns {w : World} {B n c : Nat} {e : TypeId} {A : Option Addr} {L : List (Int × Int)} (h : w.ownsRow B e 2 (.slice A n c) n (entsL L)) : L.length = n ∧ Ents w A L := by
  obtain ⟨hl, ⟨h, h0⟩ | ⟨g, c', cur, h, hb, hh, hn, hm, hs, ht⟩⟩ := h
  · rw [entsL_length] at hl
    have : L.length = 0 := by omega
    exact ⟨by omega, fun q => by omega⟩
  · obtain ⟨rfl, rfl⟩ : A = some ⟨g, 0, none⟩ ∧ c = c' := by simpa using h
    rw [entsL_length] at hl
    have hL : L.length = n := by omega
    refine ⟨hL, fun q => ⟨g, 0, rfl, lt_of_heap hh, fun i x hx => ?_⟩⟩
    obtain ⟨h1, h2⟩ := entsL_get hx
    have hi : i < L.length := (List.getElem?_eq_some_iff.1 hx).1
    rw [← ht, List.getElem?_take_of_lt (by omega)] at h1 h2
    rw [Nat.zero_add, cell_of hh, cell_of hh]
    exact ⟨by simpa using h1, by simpa using h2⟩
theorem own_shape {w : World} {B k m : Nat} {e : TypeId} {v : Value} {xs : List Value} (h : w.ownsRow B e k v m xs) : ∃ A c, v = .slice A m c := by
  obtain ⟨hl, ⟨h, h0⟩ | ⟨g, c', cur, h, hb, hh, hn, hm, hs, ht⟩⟩ := h
  · exact ⟨none, 0, by rw [h, h0]⟩
  · exact ⟨some ⟨g, 0, none⟩, c', h⟩
end Go.Proofs.Yteibleghnadelaa
