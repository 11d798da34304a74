/-
  Frames, rows of numbers and sketches: what a world holds of them, and what changes keep it.
-/
import Derived.Test.YtffniljefbpoiaaB
import Derived.WalkKit
import Derived.ProofKit
import Derived.OpenShut
import Derived.ShutString
import Derived.Outline
import Derived.WalkLawsBesides
import Derived.BigQuiet
import Derived.Deep.QuietTactic
import Derived.Lib.Hide
import Derived.Laws.Bits64
import Derived.Laws.BitsAllLaws
import Derived.StillTailTactics
import Derived.Deep.RegionWith
import Derived.Deep.RegionHeld3
import Derived.Deep.Cut
import Derived.Deep.AppendLies
import Derived.OwnWalk
import Derived.Maps.AppendAt
import Derived.Maps.OwnSet
namespace Go.Proofs.Ytffniljefbpoiaa
open Go.ChangeShapes Go.WideShapes Go.ChangeAt Go.RowKit
set_option linter.unusedVariables false

theorem ret_i64 {a b : Int} (h : a = b) : Ending.returned (.int .i64 a) = .returned (.int .i64 b) := by rw [h]
theorem ret_bool {a b : Bool} (h : a = b) : Ending.returned (.bool a) = .returned (.bool b) := by rw [h]
theorem wrap_in {x : Int} (h : -9223372036854775808 ≤ x ∧ x ≤ 9223372036854775807) : wrap64 x = x := IntWalk.wrap64_in x h
theorem wp_seen {P : Program} {c : Code} {Q : Exit → Act → World → Prop} {a : Act} {w : World} (S : World → Prop) (hS : S w) (h : ∀ W, S W → Code.wp P c Q a W) : Code.wp P c Q a w := h w hS
theorem ex_seen {Q : Exit → Act → World → Prop} {e : Exit} {a : Act} {w : World} (S : World → Prop) (hS : S w) (h : ∀ W, S W → Q e a W) : Q e a w := h w hS
theorem post_seen {P : Program} {fn : Func} {R : Ending → World → Prop} {a : Act} {w : World} (S : World → Prop) (hS : S w) (h : ∀ W, S W → bodyPost P fn R .ret a W) : bodyPost P fn R .ret a w := h w hS

/-- What may change: the listed blocks. -/
structure Keeps (S : List Nat) (w w' : World) : Prop where
  os : w'.os = w.os
  tape : w'.tape = w.tape
  output : w'.output = w.output
  size : w.heap.size ≤ w'.heap.size
  block : ∀ k, k < w.heap.size → k ∉ S → w'.heap[k]? = w.heap[k]?
theorem lt_of_heap {w : World} {p : Nat} {o : Obj} (h : w.heap[p]? = some o) : p < w.heap.size := (Array.getElem?_eq_some_iff.1 h).1
theorem Keeps.refl (S : List Nat) (w : World) : Keeps S w w := ⟨rfl, rfl, rfl, Nat.le_refl _, fun _ _ _ => rfl⟩
theorem Keeps.trans {S T : List Nat} {a b c : World} (h : Keeps S a b) (k : Keeps T b c) (hT : ∀ i ∈ T, i ∈ S ∨ a.heap.size ≤ i) : Keeps S a c :=
  ⟨k.os.trans h.os, k.tape.trans h.tape, k.output.trans h.output, Nat.le_trans h.size k.size, fun i hi hs => (k.block i (Nat.lt_of_lt_of_le hi h.size) (fun ht => by rcases hT i ht with q | q; exact hs q; omega)).trans (h.block i hi hs)⟩
theorem Keeps.weak {S T : List Nat} {a b : World} (h : Keeps S a b) (hT : ∀ i ∈ S, i ∈ T ∨ a.heap.size ≤ i) : Keeps T a b := (Keeps.refl T a).trans h hT
theorem Keeps.of_below {S : List Nat} {a b : World} (h : Below a.heap.size a b) : Keeps S a b := ⟨h.os, h.tape, h.output, h.size, fun k hk _ => h.block k hk⟩
theorem Keeps.below {S : List Nat} {B : Nat} {a b : World} (h : Keeps S a b) (hS : ∀ i ∈ S, B ≤ i) (hB : B ≤ a.heap.size) : Below B a b := ⟨h.os, h.tape, h.output, h.size, fun k hk => h.block k (by omega) (fun hk' => by have := hS k hk'; omega)⟩
theorem Keeps.alloc {S : List Nat} {a w : World} (h : Keeps S a w) (o : Obj) : Keeps S a (w.alloc o) :=
  h.trans (Keeps.of_below (S := []) ((Below.refl _ _).alloc (Nat.le_refl _) o)) (by simp)
theorem Keeps.drew {S : List Nat} {a w : World} (h : Keeps S a w) : Keeps S a w.drew := ⟨h.os, h.tape, h.output, h.size, h.block⟩
theorem Keeps.drewN {S : List Nat} {a w : World} (h : Keeps S a w) (n : Nat) : Keeps S a (w.drewN n) := ⟨h.os, h.tape, h.output, h.size, h.block⟩
theorem size_set {w : World} (a : Addr) (u : Value) : (w.setCell a u).heap.size = w.heap.size := by simp [World.setCell]
theorem Keeps.setCell {S : List Nat} {a w : World} (h : Keeps S a w) {ad : Addr} (hb : ad.block ∈ S ∨ a.heap.size ≤ ad.block) (u : Value) : Keeps S a (w.setCell ad u) :=
  ⟨h.os, h.tape, h.output, by rw [size_set]; exact h.size, fun k hk hp => (Below.heap_setCell w _ u k (fun e => by subst e; rcases hb with q | q; exact hp q; omega)).trans (h.block k hk hp)⟩
theorem Keeps.grown {S : List Nat} {a w w' : World} {row : Option Nat} (h : Keeps S a w) (g : w.grownBy w' row) (hr : ∀ i, row = some i → i ∈ S ∨ a.heap.size ≤ i) : Keeps S a w' :=
  ⟨g.os.trans h.os, g.tape.trans h.tape, g.output.trans h.output, Nat.le_trans h.size g.size, fun k hk hp => (g.block k (Nat.lt_of_lt_of_le hk h.size) (fun e => by rcases hr k e.symm with q | q; exact hp q; omega)).trans (h.block k hk hp)⟩
theorem Keeps.at {S : List Nat} {w w' : World} (h : Keeps S w w') {p : Nat} {o : Obj} (hp : w.heap[p]? = some o) (hs : p ∉ S) : w'.heap[p]? = some o := (h.block p (lt_of_heap hp) hs).trans hp

theorem heap_new {w : World} {n : Nat} {o : Obj} (h : n = w.heap.size) : (w.alloc o).heap[n]? = some o := by
  subst h; show (w.heap.push _)[w.heap.size]? = _; simp
theorem heap_alloc {w : World} {p : Nat} {o : Obj} (h : w.heap[p]? = some o) (o' : Obj) : (w.alloc o').heap[p]? = some o := (Below.heap_alloc w o' p (lt_of_heap h)).trans h
theorem heap_drew {w : World} {p : Nat} {o : Obj} (h : w.heap[p]? = some o) : w.drew.heap[p]? = some o := h
theorem heap_set {w : World} {p i : Nat} {cs : Array Value} {T : TypeId} {f : Nat × Nat} (h : w.heap[p]? = some (.cells cs T f)) (u : Value) :
    (w.setCell ⟨p, i, none⟩ u).heap[p]? = some (.cells (cs.setIfInBounds i u) T f) := by
  simp [World.setCell, Array.getElem?_modify, h]
theorem heap_other {w : World} {p q i : Nat} {o : Obj} (h : w.heap[p]? = some o) (hne : p ≠ q) (u : Value) : (w.setCell ⟨q, i, none⟩ u).heap[p]? = some o := (Below.heap_setCell w _ u p hne).trans h
theorem cell_of {w : World} {p : Nat} {cs : Array Value} {T : TypeId} {f : Nat × Nat} (h : w.heap[p]? = some (.cells cs T f)) (i : Nat) : w.cell? ⟨p, i, none⟩ = cs[i]? := by
  unfold World.cell?; rw [show w.heap[(⟨p, i, none⟩ : Addr).block]? = _ from h]; rfl
theorem frozen_of {w : World} {p : Nat} {cs : Array Value} {T : TypeId} (h : w.heap[p]? = some (.cells cs T (0, 0))) (i : Nat) : w.frozen? ⟨p, i, none⟩ = false := by
  unfold World.frozen?; rw [show w.heap[(⟨p, i, none⟩ : Addr).block]? = _ from h]; simp

theorem set_keeps {w : World} {m : Nat} (o : Obj) : Keeps [m] w { w with heap := w.heap.setIfInBounds m o } :=
  ⟨rfl, rfl, rfl, by simp, fun k hk hm => by
    show (w.heap.setIfInBounds m o)[k]? = _
    rw [Array.getElem?_setIfInBounds_ne (by intro e; exact hm (by simp [e]))]⟩

/-- A row of numbers lies in a block (the row may have more room). -/
def Nums (w : World) (k : IntKind) (t : TypeId) (g n cap : Nat) (f : Nat → Int) : Prop :=
  ∃ cur, w.heap[g]? = some (.cells cur t (0, 0)) ∧ n ≤ cap ∧ cap ≤ maxLen ∧ cur.size = cap ∧ ∀ i, i < n → cur[i]? = some (.int k (f i))
theorem Nums.lt {w : World} {k : IntKind} {t : TypeId} {g n cap : Nat} {f : Nat → Int} (h : Nums w k t g n cap f) : g < w.heap.size := by obtain ⟨cur, h, _⟩ := h; exact lt_of_heap h
theorem Nums.cell {w : World} {k : IntKind} {t : TypeId} {g n cap : Nat} {f : Nat → Int} (h : Nums w k t g n cap f) {i : Nat} (hi : i < n) : w.cell? ⟨g, i, none⟩ = some (.int k (f i)) := by
  obtain ⟨cur, hh, _, _, _, hc⟩ := h; exact (cell_of hh i).trans (hc i hi)
theorem Nums.frozen {w : World} {k : IntKind} {t : TypeId} {g n cap : Nat} {f : Nat → Int} (h : Nums w k t g n cap f) (i : Nat) : w.frozen? ⟨g, i, none⟩ = false := by
  obtain ⟨cur, hh, _⟩ := h; exact frozen_of hh i
theorem Nums.keep {w w' : World} {k : IntKind} {t : TypeId} {g n cap : Nat} {f : Nat → Int} {S : List Nat} (h : Nums w k t g n cap f) (q : Keeps S w w') (hg : g ∉ S) : Nums w' k t g n cap f := by
  obtain ⟨cur, hh, z⟩ := h; exact ⟨cur, q.at hh hg, z⟩
theorem Nums.other {w : World} {k : IntKind} {t : TypeId} {g n cap : Nat} {f : Nat → Int} (h : Nums w k t g n cap f) {q i : Nat} (hne : g ≠ q) (u : Value) : Nums (w.setCell ⟨q, i, none⟩ u) k t g n cap f := by
  obtain ⟨cur, hh, z⟩ := h; exact ⟨cur, heap_other hh hne u, z⟩
theorem Nums.alloc {w : World} {k : IntKind} {t : TypeId} {g n cap : Nat} {f : Nat → Int} (h : Nums w k t g n cap f) (o : Obj) : Nums (w.alloc o) k t g n cap f := by
  obtain ⟨cur, hh, z⟩ := h; exact ⟨cur, heap_alloc hh o, z⟩
theorem Nums.set {w : World} {k : IntKind} {t : TypeId} {g n cap : Nat} {f : Nat → Int} (h : Nums w k t g n cap f) (i : Nat) {f' : Nat → Int} (x : Int) (hx : f' i = x) (ho : ∀ j, j ≠ i → f' j = f j) : Nums (w.setCell ⟨g, i, none⟩ (.int k x)) k t g n cap f' := by
  obtain ⟨cur, hh, h1, h2, h3, hc⟩ := h
  refine ⟨_, heap_set hh _, h1, h2, by simpa using h3, fun j hj => ?_⟩
  by_cases hij : i = j
  · subst hij
    have := (Array.getElem?_eq_some_iff.1 (hc i hj)).1
    rw [hx]; simp [this]
  · rw [Array.getElem?_setIfInBounds_ne hij, ho j (Ne.symm hij)]; exact hc j hj
theorem Nums.congr {w : World} {k : IntKind} {t : TypeId} {g n cap : Nat} {f f' : Nat → Int} (h : Nums w k t g n cap f) (e : ∀ i, i < n → f' i = f i) : Nums w k t g n cap f' := by
  obtain ⟨cur, hh, h1, h2, h3, hc⟩ := h; exact ⟨cur, hh, h1, h2, h3, fun i hi => by rw [e i hi]; exact hc i hi⟩
theorem Nums.owns {w : World} {k : IntKind} {t : TypeId} {g n cap : Nat} {f : Nat → Int} (h : Nums w k t g n cap f) : w.ownsRow 0 t 1 (.slice (some ⟨g, 0, none⟩) n cap) n ((List.range n).map fun i => Value.int k (f i)) := by
  obtain ⟨cur, hh, h1, h2, h3, hc⟩ := h
  refine ⟨by simp, .inr ⟨g, cap, cur, rfl, Nat.zero_le _, hh, h1, h2, by omega, ?_⟩⟩
  apply List.ext_getElem?
  intro i
  by_cases hi : i < n
  · rw [List.getElem?_take_of_lt (by omega), Array.getElem?_toList, hc i hi]; simp [hi]
  · rw [List.getElem?_eq_none (by simp; omega), List.getElem?_eq_none (by simp; omega)]
theorem Nums.of_owns {w : World} {k : IntKind} {t : TypeId} {g n cap : Nat} {f : Nat → Int} {B : Nat} (h : w.ownsRow B t 1 (.slice (some ⟨g, 0, none⟩) n cap) n ((List.range n).map fun i => Value.int k (f i))) : Nums w k t g n cap f := by
  obtain ⟨_, ⟨h, _⟩ | ⟨g', c, cur, h, hb, hh, hn, hm, hs, ht⟩⟩ := h
  · cases h
  · obtain ⟨rfl, rfl⟩ : g = g' ∧ cap = c := by simpa using h
    refine ⟨cur, hh, hn, hm, by omega, fun i hi => ?_⟩
    have e : (cur.toList.take (n * 1))[i]? = ((List.range n).map fun i => Value.int k (f i))[i]? := by rw [ht]
    rw [List.getElem?_take_of_lt (by omega)] at e
    rw [← Array.getElem?_toList, e]; simp [hi]

/-- The words of a row. -/
def wordsF (c : Nat → Nat) : Nat → Int := fun k => ((pack c k : Nat) : Int)
def skC (K : Sk) (G Q : Nat → Nat) : Array Value := #[.int .i64 (K.n : Nat), .int .i64 (K.s : Nat), .int .i64 (K.a : Nat), .int .u64 K.seed, .bool false, .slice (some ⟨G 0, 0, none⟩) (K.n / 16) (Q 0), .slice (some ⟨G 1, 0, none⟩) (K.n / 16) (Q 1), .slice (some ⟨G 2, 0, none⟩) (K.n / 16) (Q 2), .slice (some ⟨G 3, 0, none⟩) (K.n / 16) (Q 3)]
/-- A sketch lies behind a pointer. -/
structure IsSk (w : World) (p : Nat) (G Q : Nat → Nat) (K : Sk) : Prop where
  obj : w.heap[p]? = some (.cells (skC K G Q) 54 (0, 0))
  rows : ∀ r, r < 4 → Nums w .u64 22 (G r) (K.n / 16) (Q r) (wordsF (K.c r))
  apart : ∀ r s, r < 4 → s < 4 → r ≠ s → G r ≠ G s
def blocks (p : Nat) (G : Nat → Nat) : List Nat := [p, G 0, G 1, G 2, G 3]
theorem mem_blocks {p i : Nat} {G : Nat → Nat} : i ∈ blocks p G ↔ i = p ∨ ∃ r, r < 4 ∧ i = G r := by
  unfold blocks
  simp only [List.mem_cons, List.not_mem_nil, or_false]
  constructor
  · rintro (h | h | h | h | h)
    · exact .inl h
    · exact .inr ⟨0, by omega, h⟩
    · exact .inr ⟨1, by omega, h⟩
    · exact .inr ⟨2, by omega, h⟩
    · exact .inr ⟨3, by omega, h⟩
  · rintro (h | ⟨r, hr, h⟩)
    · exact .inl h
    · have : r = 0 ∨ r = 1 ∨ r = 2 ∨ r = 3 := by omega
      rcases this with rfl | rfl | rfl | rfl <;> simp [h]
theorem IsSk.ne {w : World} {p : Nat} {G Q : Nat → Nat} {K : Sk} (s : IsSk w p G Q K) {r : Nat} (hr : r < 4) : p ≠ G r := by
  intro e
  obtain ⟨cur, hh, _⟩ := s.rows r hr
  rw [← e, s.obj] at hh
  simp at hh
theorem IsSk.keep {w w' : World} {p : Nat} {G Q : Nat → Nat} {K : Sk} {S : List Nat} (s : IsSk w p G Q K) (k : Keeps S w w') (h : ∀ i ∈ blocks p G, i ∉ S) : IsSk w' p G Q K :=
  ⟨k.at s.obj (h p (mem_blocks.2 (.inl rfl))), fun r hr => (s.rows r hr).keep k (h _ (mem_blocks.2 (.inr ⟨r, hr, rfl⟩))), s.apart⟩
theorem IsSk.below {w w' : World} {p : Nat} {G Q : Nat → Nat} {K : Sk} (s : IsSk w p G Q K) (k : Below w.heap.size w w') : IsSk w' p G Q K := s.keep (Keeps.of_below (S := []) k) (by simp)
theorem IsSk.lt {w : World} {p : Nat} {G Q : Nat → Nat} {K : Sk} (s : IsSk w p G Q K) : ∀ i ∈ blocks p G, i < w.heap.size := by
  intro i hi
  rcases mem_blocks.1 hi with rfl | ⟨r, hr, rfl⟩
  · exact lt_of_heap s.obj
  · exact (s.rows r hr).lt
/-- The slice of a row. -/
theorem IsSk.row_cell {w : World} {p : Nat} {G Q : Nat → Nat} {K : Sk} (s : IsSk w p G Q K) {r : Nat} (hr : r < 4) : w.cell? ⟨p, 5 + r, none⟩ = some (.slice (some ⟨G r, 0, none⟩) (K.n / 16) (Q r)) := by
  rw [cell_of s.obj]
  have : r = 0 ∨ r = 1 ∨ r = 2 ∨ r = 3 := by omega
  rcases this with rfl | rfl | rfl | rfl <;> rfl
end Go.Proofs.Ytffniljefbpoiaa
