/-
  Frames, rows of numbers and filters: what a world holds of them, and what changes keep it.
-/
import Derived.Test.YtihgidkkdjmlkaaB
import Derived.WalkKit
import Derived.ProofKit
import Derived.OpenShut
import Derived.ShutString
import Derived.Outline
import Derived.WalkLawsBesides
import Derived.BigQuiet
import Derived.Deep.QuietTactic
import Derived.Lib.Hide
import Derived.Laws.Bits64
import Derived.Laws.BitsAllLaws
import Derived.StillTailTactics
import Derived.Deep.RegionWith
import Derived.Deep.RegionHeld3
import Derived.Deep.Cut
import Derived.Deep.AppendLies
import Derived.OwnWalk
import Derived.Maps.AppendAt
import Derived.Maps.OwnSet
namespace Go.Proofs.Ytihgidkkdjmlkaa
open Go.ChangeShapes Go.WideShapes Go.ChangeAt Go.RowKit
set_option linter.unusedVariables false

theorem ret_i64 {a b : Int} (h : a = b) : Ending.returned (.int .i64 a) = .returned (.int .i64 b) := by rw [h]
theorem ret_bool {a b : Bool} (h : a = b) : Ending.returned (.bool a) = .returned (.bool b) := by rw [h]
theorem wrap_in {x : Int} (h : -9223372036854775808 ≤ x ∧ x ≤ 9223372036854775807) : wrap64 x = x := IntWalk.wrap64_in x h
theorem wp_seen {P : Program} {c : Code} {Q : Exit → Act → World → Prop} {a : Act} {w : World} (S : World → Prop) (hS : S w) (h : ∀ W, S W → Code.wp P c Q a W) : Code.wp P c Q a w := h w hS
theorem ex_seen {Q : Exit → Act → World → Prop} {e : Exit} {a : Act} {w : World} (S : World → Prop) (hS : S w) (h : ∀ W, S W → Q e a W) : Q e a w := h w hS
theorem post_seen {P : Program} {fn : Func} {R : Ending → World → Prop} {a : Act} {w : World} (S : World → Prop) (hS : S w) (h : ∀ W, S W → bodyPost P fn R .ret a W) : bodyPost P fn R .ret a w := h w hS

/-- What may change: the listed blocks. -/
structure Keeps (S : List Nat) (w w' : World) : Prop where
  os : w'.os = w.os
  tape : w'.tape = w.tape
  output : w'.output = w.output
  size : w.heap.size ≤ w'.heap.size
  block : ∀ k, k < w.heap.size → k ∉ S → w'.heap[k]? = w.heap[k]?
theorem lt_of_heap {w : World} {p : Nat} {o : Obj} (h : w.heap[p]? = some o) : p < w.heap.size := (Array.getElem?_eq_some_iff.1 h).1
theorem Keeps.refl (S : List Nat) (w : World) : Keeps S w w := ⟨rfl, rfl, rfl, Nat.le_refl _, fun _ _ _ => rfl⟩
theorem Keeps.trans {S T : List Nat} {a b c : World} (h : Keeps S a b) (k : Keeps T b c) (hT : ∀ i ∈ T, i ∈ S ∨ a.heap.size ≤ i) : Keeps S a c :=
  ⟨k.os.trans h.os, k.tape.trans h.tape, k.output.trans h.output, Nat.le_trans h.size k.size, fun i hi hs => (k.block i (Nat.lt_of_lt_of_le hi h.size) (fun ht => by rcases hT i ht with q | q; exact hs q; omega)).trans (h.block i hi hs)⟩
theorem Keeps.weak {S T : List Nat} {a b : World} (h : Keeps S a b) (hT : ∀ i ∈ S, i ∈ T ∨ a.heap.size ≤ i) : Keeps T a b := (Keeps.refl T a).trans h hT
theorem Keeps.of_below {S : List Nat} {a b : World} (h : Below a.heap.size a b) : Keeps S a b := ⟨h.os, h.tape, h.output, h.size, fun k hk _ => h.block k hk⟩
theorem Keeps.below {S : List Nat} {B : Nat} {a b : World} (h : Keeps S a b) (hS : ∀ i ∈ S, B ≤ i) (hB : B ≤ a.heap.size) : Below B a b := ⟨h.os, h.tape, h.output, h.size, fun k hk => h.block k (by omega) (fun hk' => by have := hS k hk'; omega)⟩
theorem Keeps.alloc {S : List Nat} {a w : World} (h : Keeps S a w) (o : Obj) : Keeps S a (w.alloc o) :=
  h.trans (Keeps.of_below (S := []) ((Below.refl _ _).alloc (Nat.le_refl _) o)) (by simp)
theorem Keeps.drew {S : List Nat} {a w : World} (h : Keeps S a w) : Keeps S a w.drew := ⟨h.os, h.tape, h.output, h.size, h.block⟩
theorem Keeps.drewN {S : List Nat} {a w : World} (h : Keeps S a w) (n : Nat) : Keeps S a (w.drewN n) := ⟨h.os, h.tape, h.output, h.size, h.block⟩
theorem size_set {w : World} (a : Addr) (u : Value) : (w.setCell a u).heap.size = w.heap.size := by simp [World.setCell]
theorem Keeps.setCell {S : List Nat} {a w : World} (h : Keeps S a w) {ad : Addr} (hb : ad.block ∈ S ∨ a.heap.size ≤ ad.block) (u : Value) : Keeps S a (w.setCell ad u) :=
  ⟨h.os, h.tape, h.output, by rw [size_set]; exact h.size, fun k hk hp => (Below.heap_setCell w _ u k (fun e => by subst e; rcases hb with q | q; exact hp q; omega)).trans (h.block k hk hp)⟩
theorem Keeps.grown {S : List Nat} {a w w' : World} {row : Option Nat} (h : Keeps S a w) (g : w.grownBy w' row) (hr : ∀ i, row = some i → i ∈ S ∨ a.heap.size ≤ i) : Keeps S a w' :=
  ⟨g.os.trans h.os, g.tape.trans h.tape, g.output.trans h.output, Nat.le_trans h.size g.size, fun k hk hp => (g.block k (Nat.lt_of_lt_of_le hk h.size) (fun e => by rcases hr k e.symm with q | q; exact hp q; omega)).trans (h.block k hk hp)⟩
theorem Keeps.at {S : List Nat} {w w' : World} (h : Keeps S w w') {p : Nat} {o : Obj} (hp : w.heap[p]? = some o) (hs : p ∉ S) : w'.heap[p]? = some o := (h.block p (lt_of_heap hp) hs).trans hp

theorem heap_new {w : World} {n : Nat} {o : Obj} (h : n = w.heap.size) : (w.alloc o).heap[n]? = some o := by
  subst h; show (w.heap.push _)[w.heap.size]? = _; simp
theorem heap_alloc {w : World} {p : Nat} {o : Obj} (h : w.heap[p]? = some o) (o' : Obj) : (w.alloc o').heap[p]? = some o := (Below.heap_alloc w o' p (lt_of_heap h)).trans h
theorem heap_drew {w : World} {p : Nat} {o : Obj} (h : w.heap[p]? = some o) : w.drew.heap[p]? = some o := h
theorem heap_set {w : World} {p i : Nat} {cs : Array Value} {T : TypeId} {f : Nat × Nat} (h : w.heap[p]? = some (.cells cs T f)) (u : Value) :
    (w.setCell ⟨p, i, none⟩ u).heap[p]? = some (.cells (cs.setIfInBounds i u) T f) := by
  simp [World.setCell, Array.getElem?_modify, h]
theorem heap_other {w : World} {p q i : Nat} {o : Obj} (h : w.heap[p]? = some o) (hne : p ≠ q) (u : Value) : (w.setCell ⟨q, i, none⟩ u).heap[p]? = some o := (Below.heap_setCell w _ u p hne).trans h
theorem cell_of {w : World} {p : Nat} {cs : Array Value} {T : TypeId} {f : Nat × Nat} (h : w.heap[p]? = some (.cells cs T f)) (i : Nat) : w.cell? ⟨p, i, none⟩ = cs[i]? := by
  unfold World.cell?; rw [show w.heap[(⟨p, i, none⟩ : Addr).block]? = _ from h]; rfl
theorem frozen_of {w : World} {p : Nat} {cs : Array Value} {T : TypeId} (h : w.heap[p]? = some (.cells cs T (0, 0))) (i : Nat) : w.frozen? ⟨p, i, none⟩ = false := by
  unfold World.frozen?; rw [show w.heap[(⟨p, i, none⟩ : Addr).block]? = _ from h]; simp

theorem set_keeps {w : World} {m : Nat} (o : Obj) : Keeps [m] w { w with heap := w.heap.setIfInBounds m o } :=
  ⟨rfl, rfl, rfl, by simp, fun k hk hm => by
    show (w.heap.setIfInBounds m o)[k]? = _
    rw [Array.getElem?_setIfInBounds_ne (by intro e; exact hm (by simp [e]))]⟩

/-- A row of numbers lies in a block (the row may have more room). -/
def Nums (w : World) (k : IntKind) (t : TypeId) (g n cap : Nat) (f : Nat → Int) : Prop :=
  ∃ cur, w.heap[g]? = some (.cells cur t (0, 0)) ∧ n ≤ cap ∧ cap ≤ maxLen ∧ cur.size = cap ∧ ∀ i, i < n → cur[i]? = some (.int k (f i))
theorem Nums.lt {w : World} {k : IntKind} {t : TypeId} {g n cap : Nat} {f : Nat → Int} (h : Nums w k t g n cap f) : g < w.heap.size := by obtain ⟨cur, h, _⟩ := h; exact lt_of_heap h
theorem Nums.cell {w : World} {k : IntKind} {t : TypeId} {g n cap : Nat} {f : Nat → Int} (h : Nums w k t g n cap f) {i : Nat} (hi : i < n) : w.cell? ⟨g, i, none⟩ = some (.int k (f i)) := by
  obtain ⟨cur, hh, _, _, _, hc⟩ := h; exact (cell_of hh i).trans (hc i hi)
theorem Nums.frozen {w : World} {k : IntKind} {t : TypeId} {g n cap : Nat} {f : Nat → Int} (h : Nums w k t g n cap f) (i : Nat) : w.frozen? ⟨g, i, none⟩ = false := by
  obtain ⟨cur, hh, _⟩ := h; exact frozen_of hh i
theorem Nums.keep {w w' : World} {k : IntKind} {t : TypeId} {g n cap : Nat} {f : Nat → Int} {S : List Nat} (h : Nums w k t g n cap f) (q : Keeps S w w') (hg : g ∉ S) : Nums w' k t g n cap f := by
  obtain ⟨cur, hh, z⟩ := h; exact ⟨cur, q.at hh hg, z⟩
theorem Nums.other {w : World} {k : IntKind} {t : TypeId} {g n cap : Nat} {f : Nat → Int} (h : Nums w k t g n cap f) {q i : Nat} (hne : g ≠ q) (u : Value) : Nums (w.setCell ⟨q, i, none⟩ u) k t g n cap f := by
  obtain ⟨cur, hh, z⟩ := h; exact ⟨cur, heap_other hh hne u, z⟩
theorem Nums.alloc {w : World} {k : IntKind} {t : TypeId} {g n cap : Nat} {f : Nat → Int} (h : Nums w k t g n cap f) (o : Obj) : Nums (w.alloc o) k t g n cap f := by
  obtain ⟨cur, hh, z⟩ := h; exact ⟨cur, heap_alloc hh o, z⟩
theorem Nums.set {w : World} {k : IntKind} {t : TypeId} {g n cap : Nat} {f : Nat → Int} (h : Nums w k t g n cap f) (i : Nat) {f' : Nat → Int} (x : Int) (hx : f' i = x) (ho : ∀ j, j ≠ i → f' j = f j) : Nums (w.setCell ⟨g, i, none⟩ (.int k x)) k t g n cap f' := by
  obtain ⟨cur, hh, h1, h2, h3, hc⟩ := h
  refine ⟨_, heap_set hh _, h1, h2, by simpa using h3, fun j hj => ?_⟩
  by_cases hij : i = j
  · subst hij
    have := (Array.getElem?_eq_some_iff.1 (hc i hj)).1
    rw [hx]; simp [this]
  · rw [Array.getElem?_setIfInBounds_ne hij, ho j (Ne.symm hij)]; exact hc j hj
theorem Nums.congr {w : World} {k : IntKind} {t : TypeId} {g n cap : Nat} {f f' : Nat → Int} (h : Nums w k t g n cap f) (e : ∀ i, i < n → f' i = f i) : Nums w k t g n cap f' := by
  obtain ⟨cur, hh, h1, h2, h3, hc⟩ := h; exact ⟨cur, hh, h1, h2, h3, fun i hi => by rw [e i hi]; exact hc i hi⟩
theorem Nums.owns {w : World} {k : IntKind} {t : TypeId} {g n cap : Nat} {f : Nat → Int} (h : Nums w k t g n cap f) : w.ownsRow 0 t 1 (.slice (some ⟨g, 0, none⟩) n cap) n ((List.range n).map fun i => Value.int k (f i)) := by
  obtain ⟨cur, hh, h1, h2, h3, hc⟩ := h
  refine ⟨by simp, .inr ⟨g, cap, cur, rfl, Nat.zero_le _, hh, h1, h2, by omega, ?_⟩⟩
  apply List.ext_getElem?
  intro i
  by_cases hi : i < n
  · rw [List.getElem?_take_of_lt (by omega), Array.getElem?_toList, hc i hi]; simp [hi]
  · rw [List.getElem?_eq_none (by simp; omega), List.getElem?_eq_none (by simp; omega)]
theorem Nums.of_owns {w : World} {k : IntKind} {t : TypeId} {g n cap : Nat} {f : Nat → Int} {B : Nat} (h : w.ownsRow B t 1 (.slice (some ⟨g, 0, none⟩) n cap) n ((List.range n).map fun i => Value.int k (f i))) : Nums w k t g n cap f := by
  obtain ⟨_, ⟨h, _⟩ | ⟨g', c, cur, h, hb, hh, hn, hm, hs, ht⟩⟩ := h
  · cases h
  · obtain ⟨rfl, rfl⟩ : g = g' ∧ cap = c := by simpa using h
    refine ⟨cur, hh, hn, hm, by omega, fun i hi => ?_⟩
    have e : (cur.toList.take (n * 1))[i]? = ((List.range n).map fun i => Value.int k (f i))[i]? := by rw [ht]
    rw [List.getElem?_take_of_lt (by omega)] at e
    rw [← Array.getElem?_toList, e]; simp [hi]

/-- A filter: bits, places of a key, seed, which bits are set. -/
structure Bl where
  n : Nat
  h : Nat
  seed : Int
  b : Nat → Bool
/-- What holds of all filters. -/
structure Bl.Ok (K : Bl) : Prop where
  pow : ∃ e, 6 ≤ e ∧ e ≤ 20 ∧ K.n = 2 ^ e
  hash : 1 ≤ K.h ∧ K.h ≤ 8
  seed : Word K.seed
theorem Bl.Ok.n64 {K : Bl} (h : K.Ok) : 64 ≤ K.n ∧ K.n ≤ 1048576 ∧ K.n = 64 * (K.n / 64) := by
  obtain ⟨e, h1, h2, h3⟩ := h.pow
  rw [h3]
  have a : 2 ^ 6 ≤ 2 ^ e := Nat.pow_le_pow_right (by omega) h1
  have b : 2 ^ e ≤ 2 ^ 20 := Nat.pow_le_pow_right (by omega) h2
  have c : 2 ^ e = 64 * 2 ^ (e - 6) := by rw [show (64 : Nat) = 2 ^ 6 from rfl, ← Nat.pow_add]; congr 1; omega
  refine ⟨a, b, ?_⟩
  omega
/-- The places of a key: what is added at each round, and where it starts. -/
def lowS (S : Int) : Nat := S.toNat % 4294967296
def stepS (S : Int) : Nat := S.toNat / 4294967296 ||| 1
def plS (S : Int) (n i : Nat) : Nat := (lowS S + i * stepS S) % 18446744073709551616 % n
def Bl.sum (K : Bl) (key : List UInt8) : Int := sumI K.seed false key
def Bl.plc (K : Bl) (key : List UInt8) (i : Nat) : Nat := plS (K.sum key) K.n i
def Bl.pls (K : Bl) (key : List UInt8) : List Nat := (List.range K.h).map (K.plc key)
theorem Bl.plc_lt {K : Bl} (h : K.Ok) (key : List UInt8) (i : Nat) : K.plc key i < K.n := Nat.mod_lt _ (by have := h.n64; omega)
def setAll (f : Nat → Bool) : List Nat → Nat → Bool
  | [] => f
  | p :: l => setAll (setB f p) l
def Bl.add (K : Bl) (key : List UInt8) : Bl := ⟨K.n, K.h, K.seed, setAll K.b (K.pls key)⟩
def Bl.has (K : Bl) (key : List UInt8) : Bool := (K.pls key).all K.b
def Bl.join (K M : Bl) : Bl := ⟨K.n, K.h, K.seed, fun i => K.b i || M.b i⟩
def Bl.none (K : Bl) : Bl := ⟨K.n, K.h, K.seed, fun _ => false⟩
def Bl.new (n h : Nat) (seed : Int) : Bl := ⟨n, h, seed, fun _ => false⟩
def Bl.like (K M : Bl) : Bool := decide (K.n = M.n ∧ K.h = M.h ∧ K.seed = M.seed)
def Bl.ones (K : Bl) : Nat := cntB K.b K.n
/-- The words of a filter. -/
def wordsF (f : Nat → Bool) : Nat → Int := fun k => ((pack f k : Nat) : Int)
def blC (K : Bl) (g q : Nat) : Array Value := #[.int .i64 (K.h : Nat), .int .u64 K.seed, .int .u64 K.seed, .bool false, .slice (some ⟨g, 0, none⟩) (K.n / 64) q]
/-- A filter lies behind a pointer. -/
structure IsBl (w : World) (p g q : Nat) (K : Bl) : Prop where
  obj : w.heap[p]? = some (.cells (blC K g q) 63 (0, 0))
  row : Nums w .u64 22 g (K.n / 64) q (wordsF K.b)
section
variable {w w' : World} {p g q : Nat} {K : Bl}
theorem IsBl.ne (s : IsBl w p g q K) : p ≠ g := by
  intro e
  obtain ⟨cur, hh, _⟩ := s.row
  rw [← e, s.obj] at hh
  simp at hh
theorem IsBl.keep {S : List Nat} (s : IsBl w p g q K) (k : Keeps S w w') (h1 : p ∉ S) (h2 : g ∉ S) : IsBl w' p g q K := ⟨k.at s.obj h1, s.row.keep k h2⟩
theorem IsBl.below (s : IsBl w p g q K) (k : Below w.heap.size w w') : IsBl w' p g q K := s.keep (Keeps.of_below (S := []) k) (by simp) (by simp)
theorem IsBl.alloc (s : IsBl w p g q K) (o : Obj) : IsBl (w.alloc o) p g q K := ⟨heap_alloc s.obj o, s.row.alloc o⟩
theorem IsBl.lt (s : IsBl w p g q K) : p < w.heap.size ∧ g < w.heap.size := ⟨lt_of_heap s.obj, s.row.lt⟩
theorem IsBl.cells (s : IsBl w p g q K) : w.cell? ⟨p, 0, none⟩ = some (.int .i64 (K.h : Nat)) ∧ w.cell? ⟨p, 1, none⟩ = some (.int .u64 K.seed) ∧ w.cell? ⟨p, 2, none⟩ = some (.int .u64 K.seed) ∧ w.cell? ⟨p, 3, none⟩ = some (.bool false) ∧ w.cell? ⟨p, 4, none⟩ = some (.slice (some ⟨g, 0, none⟩) (K.n / 64) q) :=
  ⟨cell_of s.obj 0, cell_of s.obj 1, cell_of s.obj 2, cell_of s.obj 3, cell_of s.obj 4⟩
theorem IsBl.word (s : IsBl w p g q K) {i : Nat} (hi : i < K.n / 64) : w.cell? ⟨g, i, none⟩ = some (.int .u64 ((pack K.b i : Nat) : Int)) := s.row.cell hi
end
end Go.Proofs.Ytihgidkkdjmlkaa
