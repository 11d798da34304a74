/-
  Frames, rows of places and maps of a second-chance cache: what a world holds of them, and what changes keep it.
-/
import Derived.Test.YtbjhpefnonnkmaaRows
import Derived.WalkKit
import Derived.ProofKit
import Derived.OpenShut
import Derived.ShutString
import Derived.Outline
import Derived.WalkLawsBesides
import Derived.BigQuiet
import Derived.Deep.QuietTactic
import Derived.Lib.Hide
import Derived.Laws.Bits64
import Derived.Laws.BitsAllLaws
import Derived.StillTailTactics
import Derived.Deep.RegionWith
import Derived.Deep.RegionHeld3
import Derived.Deep.Cut
import Derived.Deep.AppendLies
import Derived.OwnWalk
import Derived.Maps.AppendAt
import Derived.Maps.OwnSet
namespace Go.Proofs.Ytbjhpefnonnkmaa
open Go.ChangeShapes Go.WideShapes Go.ChangeAt Go.RowKit
set_option linter.unusedVariables false

theorem ret_i64 {a b : Int} (h : a = b) : Ending.returned (.int .i64 a) = .returned (.int .i64 b) := by rw [h]
theorem ret_bool {a b : Bool} (h : a = b) : Ending.returned (.bool a) = .returned (.bool b) := by rw [h]
theorem wrap_in {x : Int} (h : -9223372036854775808 ≤ x ∧ x ≤ 9223372036854775807) : wrap64 x = x := IntWalk.wrap64_in x h
theorem wp_seen {P : Program} {c : Code} {Q : Exit → Act → World → Prop} {a : Act} {w : World} (S : World → Prop) (hS : S w) (h : ∀ W, S W → Code.wp P c Q a W) : Code.wp P c Q a w := h w hS
theorem ex_seen {Q : Exit → Act → World → Prop} {e : Exit} {a : Act} {w : World} (S : World → Prop) (hS : S w) (h : ∀ W, S W → Q e a W) : Q e a w := h w hS
theorem post_seen {P : Program} {fn : Func} {R : Ending → World → Prop} {a : Act} {w : World} (S : World → Prop) (hS : S w) (h : ∀ W, S W → bodyPost P fn R .ret a W) : bodyPost P fn R .ret a w := h w hS

/-- What may change: the listed blocks. -/
structure Keeps (S : List Nat) (w w' : World) : Prop where
  os : w'.os = w.os
  tape : w'.tape = w.tape
  output : w'.output = w.output
  size : w.heap.size ≤ w'.heap.size
  block : ∀ k, k < w.heap.size → k ∉ S → w'.heap[k]? = w.heap[k]?
theorem lt_of_heap {w : World} {p : Nat} {o : Obj} (h : w.heap[p]? = some o) : p < w.heap.size := (Array.getElem?_eq_some_iff.1 h).1
theorem Keeps.refl (S : List Nat) (w : World) : Keeps S w w := ⟨rfl, rfl, rfl, Nat.le_refl _, fun _ _ _ => rfl⟩
theorem Keeps.trans {S T : List Nat} {a b c : World} (h : Keeps S a b) (k : Keeps T b c) (hT : ∀ i ∈ T, i ∈ S ∨ a.heap.size ≤ i) : Keeps S a c :=
  ⟨k.os.trans h.os, k.tape.trans h.tape, k.output.trans h.output, Nat.le_trans h.size k.size, fun i hi hs => (k.block i (Nat.lt_of_lt_of_le hi h.size) (fun ht => by rcases hT i ht with q | q; exact hs q; omega)).trans (h.block i hi hs)⟩
theorem Keeps.weak {S T : List Nat} {a b : World} (h : Keeps S a b) (hT : ∀ i ∈ S, i ∈ T ∨ a.heap.size ≤ i) : Keeps T a b := (Keeps.refl T a).trans h hT
theorem Keeps.of_below {S : List Nat} {a b : World} (h : Below a.heap.size a b) : Keeps S a b := ⟨h.os, h.tape, h.output, h.size, fun k hk _ => h.block k hk⟩
theorem Keeps.below {S : List Nat} {B : Nat} {a b : World} (h : Keeps S a b) (hS : ∀ i ∈ S, B ≤ i) (hB : B ≤ a.heap.size) : Below B a b := ⟨h.os, h.tape, h.output, h.size, fun k hk => h.block k (by omega) (fun hk' => by have := hS k hk'; omega)⟩
theorem Keeps.alloc {S : List Nat} {a w : World} (h : Keeps S a w) (o : Obj) : Keeps S a (w.alloc o) :=
  h.trans (Keeps.of_below (S := []) ((Below.refl _ _).alloc (Nat.le_refl _) o)) (by simp)
theorem Keeps.drew {S : List Nat} {a w : World} (h : Keeps S a w) : Keeps S a w.drew := ⟨h.os, h.tape, h.output, h.size, h.block⟩
theorem Keeps.drewN {S : List Nat} {a w : World} (h : Keeps S a w) (n : Nat) : Keeps S a (w.drewN n) := ⟨h.os, h.tape, h.output, h.size, h.block⟩
theorem size_set {w : World} (a : Addr) (u : Value) : (w.setCell a u).heap.size = w.heap.size := by simp [World.setCell]
theorem Keeps.setCell {S : List Nat} {a w : World} (h : Keeps S a w) {ad : Addr} (hb : ad.block ∈ S ∨ a.heap.size ≤ ad.block) (u : Value) : Keeps S a (w.setCell ad u) :=
  ⟨h.os, h.tape, h.output, by rw [size_set]; exact h.size, fun k hk hp => (Below.heap_setCell w _ u k (fun e => by subst e; rcases hb with q | q; exact hp q; omega)).trans (h.block k hk hp)⟩
theorem Keeps.grown {S : List Nat} {a w w' : World} {row : Option Nat} (h : Keeps S a w) (g : w.grownBy w' row) (hr : ∀ i, row = some i → i ∈ S ∨ a.heap.size ≤ i) : Keeps S a w' :=
  ⟨g.os.trans h.os, g.tape.trans h.tape, g.output.trans h.output, Nat.le_trans h.size g.size, fun k hk hp => (g.block k (Nat.lt_of_lt_of_le hk h.size) (fun e => by rcases hr k e.symm with q | q; exact hp q; omega)).trans (h.block k hk hp)⟩
theorem Keeps.at {S : List Nat} {w w' : World} (h : Keeps S w w') {p : Nat} {o : Obj} (hp : w.heap[p]? = some o) (hs : p ∉ S) : w'.heap[p]? = some o := (h.block p (lt_of_heap hp) hs).trans hp

theorem heap_new {w : World} {n : Nat} {o : Obj} (h : n = w.heap.size) : (w.alloc o).heap[n]? = some o := by
  subst h; show (w.heap.push _)[w.heap.size]? = _; simp
theorem heap_alloc {w : World} {p : Nat} {o : Obj} (h : w.heap[p]? = some o) (o' : Obj) : (w.alloc o').heap[p]? = some o := (Below.heap_alloc w o' p (lt_of_heap h)).trans h
theorem heap_drew {w : World} {p : Nat} {o : Obj} (h : w.heap[p]? = some o) : w.drew.heap[p]? = some o := h
theorem heap_set {w : World} {p i : Nat} {cs : Array Value} {T : TypeId} {f : Nat × Nat} (h : w.heap[p]? = some (.cells cs T f)) (u : Value) :
    (w.setCell ⟨p, i, none⟩ u).heap[p]? = some (.cells (cs.setIfInBounds i u) T f) := by
  simp [World.setCell, Array.getElem?_modify, h]
theorem heap_other {w : World} {p q i : Nat} {o : Obj} (h : w.heap[p]? = some o) (hne : p ≠ q) (u : Value) : (w.setCell ⟨q, i, none⟩ u).heap[p]? = some o := (Below.heap_setCell w _ u p hne).trans h
theorem cell_of {w : World} {p : Nat} {cs : Array Value} {T : TypeId} {f : Nat × Nat} (h : w.heap[p]? = some (.cells cs T f)) (i : Nat) : w.cell? ⟨p, i, none⟩ = cs[i]? := by
  unfold World.cell?; rw [show w.heap[(⟨p, i, none⟩ : Addr).block]? = _ from h]; rfl
theorem frozen_of {w : World} {p : Nat} {cs : Array Value} {T : TypeId} (h : w.heap[p]? = some (.cells cs T (0, 0))) (i : Nat) : w.frozen? ⟨p, i, none⟩ = false := by
  unfold World.frozen?; rw [show w.heap[(⟨p, i, none⟩ : Addr).block]? = _ from h]; simp

/-- A place of the ring. -/
structure Pl where
  key : Int
  full : Bool
  mark : Bool
deriving DecidableEq
/-- A free place. -/
def Pl.no : Pl := ⟨0, false, false⟩
def plC (x : Pl) : List Value := [.int .u32 x.key, .bool x.full, .bool x.mark]
def ringL (R : List Pl) : List Value := R.flatMap plC
theorem ringL_length (R : List Pl) : (ringL R).length = R.length * 3 := by
  induction R with
  | nil => rfl
  | cons x R ih => show (plC x ++ ringL R).length = _; rw [List.length_append, ih]; simp [plC]; omega
theorem ringL_get {R : List Pl} {i : Nat} {x : Pl} (h : R[i]? = some x) (j : Nat) (hj : j < 3) : (ringL R)[i * 3 + j]? = (plC x)[j]? := by
  induction R generalizing i with
  | nil => simp at h
  | cons y R ih =>
    show (plC y ++ ringL R)[i * 3 + j]? = _
    cases i with
    | zero =>
      obtain rfl : y = x := by simpa using h
      rw [List.getElem?_append_left (by simp [plC]; omega)]; simp
    | succ i =>
      rw [List.getElem?_append_right (by simp [plC]; omega)]
      have := ih (i := i) (by simpa using h)
      rw [← this]; congr 1; simp [plC]; omega
theorem ringL_set {R : List Pl} {i : Nat} (hi : i < R.length) (x : Pl) : ((((ringL R).set (i * 3) (.int .u32 x.key)).set (i * 3 + 1) (.bool x.full)).set (i * 3 + 2) (.bool x.mark)) = ringL (R.set i x) := by
  induction R generalizing i with
  | nil => simp at hi
  | cons y R ih =>
    cases i with
    | zero => rfl
    | succ i =>
      show ((((plC y ++ ringL R).set _ _).set _ _).set _ _) = plC y ++ ringL (R.set i x)
      rw [← ih (by simpa using hi)]
      have e : ∀ m, (i + 1) * 3 + m = (plC y).length + (i * 3 + m) := fun m => by simp [plC]; omega
      rw [show (i + 1) * 3 = (plC y).length + (i * 3) by simp [plC]; omega, show (plC y).length + i * 3 + 1 = (plC y).length + (i * 3 + 1) by omega, show (plC y).length + i * 3 + 2 = (plC y).length + (i * 3 + 2) by omega]
      rw [List.set_append_right _ _ (by omega), List.set_append_right _ _ (by omega), List.set_append_right _ _ (by omega)]
      simp only [Nat.add_sub_cancel_left]
theorem ringL_mark {R : List Pl} {i : Nat} {x : Pl} (h : R[i]? = some x) (b : Bool) : (ringL R).set (i * 3 + 2) (.bool b) = ringL (R.set i ⟨x.key, x.full, b⟩) := by
  induction R generalizing i with
  | nil => simp at h
  | cons y R ih =>
    cases i with
    | zero => obtain rfl : y = x := by simpa using h
              rfl
    | succ i =>
      show (plC y ++ ringL R).set _ _ = plC y ++ ringL (R.set i _)
      rw [← ih (by simpa using h), show (i + 1) * 3 + 2 = (plC y).length + (i * 3 + 2) by simp [plC]; omega, List.set_append_right _ _ (by omega)]
      simp only [Nat.add_sub_cancel_left]

/-- A row of places lies in a block (the row may have more room). -/
def Row (w : World) (e : TypeId) (r cap : Nat) (R : List Pl) : Prop :=
  ∃ cur, w.heap[r]? = some (.cells cur e (0, 0)) ∧ R.length ≤ cap ∧ cap ≤ maxLen ∧ cur.size = cap * 3 ∧ cur.toList.take (R.length * 3) = ringL R
theorem Row.lt {w : World} {e : TypeId} {r cap : Nat} {R : List Pl} (h : Row w e r cap R) : r < w.heap.size := by obtain ⟨cur, h, _⟩ := h; exact lt_of_heap h
theorem Row.cell {w : World} {e : TypeId} {r cap : Nat} {R : List Pl} (h : Row w e r cap R) {i : Nat} {x : Pl} (hx : R[i]? = some x) (j : Nat) (hj : j < 3) : w.cell? ⟨r, i * 3 + j, none⟩ = (plC x)[j]? := by
  obtain ⟨cur, hh, hl, hm, hs, ht⟩ := h
  have hi : i < R.length := (List.getElem?_eq_some_iff.1 hx).1
  rw [cell_of hh, ← ringL_get hx j hj, ← ht, List.getElem?_take_of_lt (by omega)]
  simp
theorem Row.frozen {w : World} {e : TypeId} {r cap : Nat} {R : List Pl} (h : Row w e r cap R) (i : Nat) : w.frozen? ⟨r, i, none⟩ = false := by obtain ⟨cur, hh, _⟩ := h; exact frozen_of hh i
theorem Row.keep {w w' : World} {e : TypeId} {r cap : Nat} {R : List Pl} {S : List Nat} (h : Row w e r cap R) (k : Keeps S w w') (hr : r ∉ S) : Row w' e r cap R := by
  obtain ⟨cur, hh, q⟩ := h; exact ⟨cur, k.at hh hr, q⟩
theorem Row.other {w : World} {e : TypeId} {r cap : Nat} {R : List Pl} (h : Row w e r cap R) {q i : Nat} (hne : r ≠ q) (u : Value) : Row (w.setCell ⟨q, i, none⟩ u) e r cap R := by
  obtain ⟨cur, hh, z⟩ := h; exact ⟨cur, heap_other hh hne u, z⟩
theorem Row.drew {w : World} {e : TypeId} {r cap : Nat} {R : List Pl} (h : Row w e r cap R) : Row w.drew e r cap R := h
theorem Row.alloc {w : World} {e : TypeId} {r cap : Nat} {R : List Pl} (h : Row w e r cap R) (o : Obj) : Row (w.alloc o) e r cap R := by
  obtain ⟨cur, hh, z⟩ := h; exact ⟨cur, heap_alloc hh o, z⟩
theorem take_set {α : Type} (l : List α) (n i : Nat) (x : α) (hi : i < n) : (l.set i x).take n = (l.take n).set i x := by
  rw [List.take_set]
theorem Row.set {w : World} {e : TypeId} {r cap : Nat} {R : List Pl} (h : Row w e r cap R) {i : Nat} (hi : i < R.length) (x : Pl) :
    Row (((w.setCell ⟨r, i * 3, none⟩ (.int .u32 x.key)).setCell ⟨r, i * 3 + 1, none⟩ (.bool x.full)).setCell ⟨r, i * 3 + 2, none⟩ (.bool x.mark)) e r cap (R.set i x) := by
  obtain ⟨cur, hh, hl, hm, hs, ht⟩ := h
  refine ⟨_, heap_set (heap_set (heap_set hh _) _) _, by simpa using hl, hm, by simpa using hs, ?_⟩
  rw [List.length_set, ← ringL_set hi, ← ht]
  simp only [Array.toList_setIfInBounds, List.take_set]
theorem Row.setMark {w : World} {e : TypeId} {r cap : Nat} {R : List Pl} (h : Row w e r cap R) {i : Nat} {x : Pl} (hx : R[i]? = some x) (b : Bool) :
    Row (w.setCell ⟨r, i * 3 + 2, none⟩ (.bool b)) e r cap (R.set i ⟨x.key, x.full, b⟩) := by
  obtain ⟨cur, hh, hl, hm, hs, ht⟩ := h
  refine ⟨_, heap_set hh _, by simpa using hl, hm, by simpa using hs, ?_⟩
  rw [List.length_set, ← ringL_mark hx, ← ht]
  simp only [Array.toList_setIfInBounds, List.take_set]
theorem Row.owns {w : World} {e : TypeId} {r cap : Nat} {R : List Pl} (h : Row w e r cap R) : w.ownsRow 0 e 3 (.slice (some ⟨r, 0, none⟩) R.length cap) R.length (ringL R) := by
  obtain ⟨cur, hh, hl, hm, hs, ht⟩ := h
  exact ⟨ringL_length R, .inr ⟨r, cap, cur, rfl, Nat.zero_le _, hh, hl, hm, hs, ht⟩⟩
theorem Row.of_owns {w : World} {e : TypeId} {r cap n : Nat} {R : List Pl} (hn : R.length = n) (h : w.ownsRow 0 e 3 (.slice (some ⟨r, 0, none⟩) n cap) n (ringL R)) : Row w e r cap R := by
  subst hn
  obtain ⟨_, ⟨h, _⟩ | ⟨g, c, cur, h, hb, hh, hl, hm, hs, ht⟩⟩ := h
  · cases h
  · obtain ⟨rfl, rfl⟩ : r = g ∧ cap = c := by simpa using h
    exact ⟨cur, hh, hl, hm, hs, ht⟩

/-- The entries of a map. -/
def valsOf (L : List (Int × Int)) : List (Value × Value) := L.map fun q => (.int .u32 q.1, .int .i64 q.2)
def Mp (w : World) (m : Nat) (L : List (Int × Int)) : Prop := ∃ es clock, w.heap[m]? = some (.map es clock) ∧ es.toList.map (fun e => (e.key, e.val)) = valsOf L
theorem Mp.lt {w : World} {m : Nat} {L : List (Int × Int)} (h : Mp w m L) : m < w.heap.size := by obtain ⟨es, c, h, _⟩ := h; exact lt_of_heap h
theorem Mp.keep {w w' : World} {m : Nat} {L : List (Int × Int)} {S : List Nat} (h : Mp w m L) (k : Keeps S w w') (hm : m ∉ S) : Mp w' m L := by obtain ⟨es, c, h, q⟩ := h; exact ⟨es, c, k.at h hm, q⟩
theorem Mp.other {w : World} {m : Nat} {L : List (Int × Int)} (h : Mp w m L) {q i : Nat} (hne : m ≠ q) (u : Value) : Mp (w.setCell ⟨q, i, none⟩ u) m L := by obtain ⟨es, c, h, z⟩ := h; exact ⟨es, c, heap_other h hne u, z⟩
theorem Mp.alloc {w : World} {m : Nat} {L : List (Int × Int)} (h : Mp w m L) (o : Obj) : Mp (w.alloc o) m L := by obtain ⟨es, c, h, z⟩ := h; exact ⟨es, c, heap_alloc h o, z⟩
theorem Mp.new {w : World} : Mp (w.alloc (.map #[] 0)) w.heap.size [] := ⟨#[], 0, heap_new rfl, rfl⟩
/-- Where a key is. -/
def lookL (k : Int) : List (Int × Int) → Nat → Option (Nat × Int)
  | [], _ => none
  | q :: L, i => if k = q.1 then some (i, q.2) else lookL k L (i + 1)
theorem findNow_of (k : Int) : ∀ (l : List MapEntry) (L : List (Int × Int)) (i : Nat), l.map (fun e => (e.key, e.val)) = valsOf L →
    Instr.findNow (.int .u32) (.int .u32 k) l i = some ((lookL k L i).map fun q => (q.1, .int .i64 q.2))
  | [], [], i, _ => rfl
  | [], _ :: _, _, h => by simp [valsOf] at h
  | _ :: _, [], _, h => by simp [valsOf] at h
  | e :: l, q :: L, i, h => by
    obtain ⟨h1, h2⟩ : (e.key, e.val) = (.int .u32 q.1, .int .i64 q.2) ∧ l.map (fun e => (e.key, e.val)) = valsOf L := by simpa [valsOf] using h
    obtain ⟨hk, hv⟩ : e.key = .int .u32 q.1 ∧ e.val = .int .i64 q.2 := by simpa using h1
    have ih := findNow_of k l L (i + 1) h2
    unfold Instr.findNow lookL
    by_cases hq : k = q.1
    · rw [if_pos hq, hk, hv]; simp [Instr.sameNow, hq]
    · have hb : (k == q.1) = false := by simpa using hq
      rw [if_neg hq, hk]; simp [Instr.sameNow, hb, ih]
theorem zero3 (w : World) : (zeroValue 3).run Try.prog w = .ok (.int .i64 0) w := by
  have : (Try.prog.info? 3).map (fun i => i.zero) = some (some (.int .i64 0)) := by kernel_rfl
  obtain ⟨i, hi, hz⟩ := Option.map_eq_some_iff.1 this
  simp [zeroValue, typeInfo, hi, hz]
theorem Mp.look {w : World} {m : Nat} {L : List (Int × Int)} (h : Mp w m L) (k : Int) :
    (Instr.lookup 55 (.map (some m)) (.int .u32 k) true).run Try.prog w = .ok (match lookL k L 0 with | some q => .tuple #[.int .i64 q.2, .bool true] | none => .tuple #[.int .i64 0, .bool false]) w := by
  obtain ⟨es, c, hh, hv⟩ := h
  have hf := findNow_of k es.toList L 0 hv
  have hk : (Instr.findKey 29 (.int .u32 k) es.toList).run Try.prog w = _ := MapKept.run_findKey (w := w) Try.underlying29 hf
  have hc := MapKept.run_checkKey (w := w) Try.underlying29 (k := .int .u32 k) rfl es.isEmpty 9999
  simp [Instr.lookup, run_underlying Try.underlying55, MapKept.run_getObj_map hh, hc, hk]
  cases lookL k L 0 <;> simp

def delL (k : Int) (L : List (Int × Int)) : List (Int × Int) := match lookL k L 0 with | some q => L.eraseIdx q.1 | none => L
theorem set_keeps {w : World} {m : Nat} (o : Obj) : Keeps [m] w { w with heap := w.heap.setIfInBounds m o } :=
  ⟨rfl, rfl, rfl, by simp, fun k hk hm => by
    show (w.heap.setIfInBounds m o)[k]? = _
    rw [Array.getElem?_setIfInBounds_ne (by intro e; exact hm (by simp [e]))]⟩
theorem map_eraseIdx {α β : Type} (f : α → β) : ∀ (l : List α) (i : Nat), (l.eraseIdx i).map f = (l.map f).eraseIdx i
  | [], _ => rfl
  | _ :: _, 0 => rfl
  | a :: l, i + 1 => by simp [List.eraseIdx, map_eraseIdx f l i]
theorem Mp.del {w : World} {m : Nat} {L : List (Int × Int)} (h : Mp w m L) (k : Int) :
    ∃ w', (∀ ty, (Builtin.delete_ #[55, 29] ty #[.map (some m), .int .u32 k]).run Try.prog w = .ok (.tuple #[]) w') ∧ Mp w' m (delL k L) ∧ Keeps [m] w w' := by
  obtain ⟨es, c, hh, hv⟩ := h
  have hf := findNow_of k es.toList L 0 hv
  have hk : (Instr.findKey 29 (.int .u32 k) es.toList).run Try.prog w = _ := MapKept.run_findKey (w := w) Try.underlying29 hf
  have hc := MapKept.run_checkKey (w := w) Try.underlying29 (k := .int .u32 k) rfl es.isEmpty 9999
  have hlt := lt_of_heap hh
  cases hl : lookL k L 0 with
  | none =>
    refine ⟨_, fun ty => ?_, ⟨es, c, ?_, ?_⟩, set_keeps (.map es c)⟩
    · rw [hl] at hk
      simp [Builtin.delete_, run_underlying Try.underlying55, MapKept.run_getObj_map hh, hc, hk, Result.andThen, MapKept.run_setObj_map _ hh]
    · show (w.heap.setIfInBounds m _)[m]? = _
      simp [hlt]
    · unfold delL; rw [hl]; exact hv
  | some q =>
    refine ⟨_, fun ty => ?_, ⟨es.eraseIdxIfInBounds q.1, c, ?_, ?_⟩, set_keeps (.map (es.eraseIdxIfInBounds q.1) c)⟩
    · rw [hl] at hk
      simp [Builtin.delete_, run_underlying Try.underlying55, MapKept.run_getObj_map hh, hc, hk, Result.andThen, MapKept.run_setObj_map _ hh]
    · show (w.heap.setIfInBounds m _)[m]? = _
      simp [hlt]
    · unfold delL; rw [hl]
      show _ = valsOf (L.eraseIdx q.1)
      unfold valsOf at hv ⊢
      rw [map_eraseIdx, ← hv, ← map_eraseIdx]
      congr 1
      unfold Array.eraseIdxIfInBounds
      split
      · rw [Array.toList_eraseIdx]
      · rename_i h9
        rw [List.eraseIdx_of_length_le (by simp; omega)]
theorem Mp.put {w : World} {m : Nat} {L : List (Int × Int)} (h : Mp w m L) (k i : Int) (hk : lookL k L 0 = none) :
    ∃ w', (Instr.mapUpdate 55 (.map (some m)) (.int .u32 k) (.int .i64 i)).run Try.prog w = .ok () w' ∧ Mp w' m (L ++ [(k, i)]) ∧ Keeps [m] w w' := by
  obtain ⟨es, c, hh, hv⟩ := h
  have hf := findNow_of k es.toList L 0 hv
  rw [hk] at hf
  have hk : (Instr.findKey 29 (.int .u32 k) es.toList).run Try.prog w = _ := MapKept.run_findKey (w := w) Try.underlying29 hf
  have hc := MapKept.run_checkKey (w := w) Try.underlying29 (k := .int .u32 k) rfl false 9999
  have hlt := lt_of_heap hh
  refine ⟨_, ?_, ⟨es.push { key := .int .u32 k, val := .int .i64 i, born := c }, c + 1, ?_, ?_⟩, set_keeps (.map (es.push { key := .int .u32 k, val := .int .i64 i, born := c }) (c + 1))⟩
  · simp [Instr.mapUpdate, run_underlying Try.underlying55, MapKept.run_getObj_map hh, hc, hk, Result.andThen, MapKept.run_setObj_map _ hh]
  · show (w.heap.setIfInBounds m _)[m]? = _
    simp [hlt]
  · simp [valsOf] at hv ⊢; exact hv
theorem Mp.len {w : World} {m : Nat} {L : List (Int × Int)} (h : Mp w m L) (ty : TypeId) :
    (Builtin.len_ #[55] ty #[.map (some m)]).run Try.prog w = .ok (.int .i64 (L.length : Nat)) w := by
  obtain ⟨es, c, hh, hv⟩ := h
  have : es.size = L.length := by have := congrArg List.length hv; simpa [valsOf] using this
  simp [Builtin.len_, run_underlying Try.underlying55, MapKept.run_getObj_map hh, Result.andThen, this, goInt]
end Go.Proofs.Ytbjhpefnonnkmaa
