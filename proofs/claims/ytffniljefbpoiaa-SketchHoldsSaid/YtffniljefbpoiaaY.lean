/-
  The plain law of SketchHolds, and what its loop holds on to.
-/
import Derived.Test.YtffniljefbpoiaaV
import Derived.Test.YtffniljefbpoiaaX
namespace Go.Proofs.Ytffniljefbpoiaa
open Go.ChangeShapes Go.WideShapes Go.ChangeAt Go.RowKit
set_option linter.unusedVariables false

/-- The counters of a key are at least its number. -/
def Lower (K : Sk) (V : ByteArray → Int) : Prop := ∀ key : ByteArray, 0 ≤ V key ∧ ∀ r, r < 4 → min 15 (V key) ≤ ((K.c r (K.plc key.data.toList r) : Nat) : Int)
theorem Lower.zero (K : Sk) : Lower K (fun _ => 0) := fun key => ⟨Int.le_refl _, fun r hr => by dsimp only; omega⟩
theorem Lower.up {K : Sk} {V : ByteArray → Int} (h : Lower K V) (hK : K.Ok) (key : ByteArray) : Lower (K.up key.data.toList) (updV V key (V key + 1)) := by
  intro k
  obtain ⟨h0, h1⟩ := h k
  obtain ⟨g0, g1⟩ := h key
  unfold updV
  refine ⟨by split <;> omega, fun r hr => ?_⟩
  have a := h1 r hr
  have b := g1 r hr
  show _ ≤ (((if K.plc k.data.toList r = K.plc key.data.toList r then min 15 (K.c r (K.plc k.data.toList r) + 1) else K.c r (K.plc k.data.toList r)) : Nat) : Int)
  by_cases e : k = key
  · subst e
    rw [if_pos rfl, if_pos rfl]; omega
  · rw [if_neg e]
    have := hK.small r (K.plc k.data.toList r)
    split <;> omega
theorem Lower.cnt {K : Sk} {V : ByteArray → Int} (h : Lower K V) (key : ByteArray) : ¬ ((K.cnt key.data.toList : Nat) : Int) < if V key < 15 then V key else 15 := by
  obtain ⟨h0, h1⟩ := h key
  have a := h1 0 (by omega)
  have b := h1 1 (by omega)
  have c := h1 2 (by omega)
  have d := h1 3 (by omega)
  unfold Sk.cnt
  split <;> omega
/-- A sum. -/
def sumN (f : Nat → Nat) : Nat → Nat
  | 0 => 0
  | n + 1 => sumN f n + f n
theorem sumN_congr {f g : Nat → Nat} : ∀ {n : Nat}, (∀ i, i < n → f i = g i) → sumN f n = sumN g n
  | 0, _ => rfl
  | n + 1, h => by show sumN f n + f n = sumN g n + g n; rw [sumN_congr (fun i hi => h i (by omega)), h n (by omega)]
theorem sumN_shift (f : Nat → Nat) : ∀ n, sumN (fun i => f (i + 1)) n + f 0 = sumN f (n + 1)
  | 0 => by show 0 + f 0 = 0 + f 0; rfl
  | n + 1 => by
    have := sumN_shift f n
    show sumN (fun i => f (i + 1)) n + f (n + 1) + f 0 = sumN f (n + 1) + f (n + 1)
    omega
theorem sumN_rev : ∀ (n : Nat) (f : Nat → Nat), sumN (fun i => f (n - 1 - i)) n = sumN f n
  | 0, _ => rfl
  | n + 1, f => by
    have ih := sumN_rev n (fun i => f (i + 1))
    have e : sumN (fun i => f (n + 1 - 1 - i)) n = sumN (fun i => f (n - 1 - i + 1)) n := sumN_congr fun i hi => by congr 1; omega
    show sumN (fun i => f (n + 1 - 1 - i)) n + f (n + 1 - 1 - n) = _
    rw [e, ih, show n + 1 - 1 - n = 0 by omega]
    exact sumN_shift f n
/-- A sketch without halving after some additions. -/
structure Plain (n : Nat) (seed : Int) (g : Nat → ByteArray) (k : Nat) (K : Sk) : Prop where
  en : K.n = n
  es : K.s = 0
  ea : K.a = k
  eseed : K.seed = seed
  c : ∀ r i, K.c r i = min 15 (sumN (fun j => if i = (Sk.new n seed 0).plc (g j).data.toList r then 1 else 0) k)
theorem Plain.zero (n : Nat) (seed : Int) (g : Nat → ByteArray) : Plain n seed g 0 (Sk.new n seed 0) := ⟨rfl, rfl, rfl, rfl, fun r i => by show 0 = min 15 0; omega⟩
theorem Plain.full {n : Nat} {seed : Int} {g : Nat → ByteArray} {k : Nat} {K : Sk} (h : Plain n seed g k K) : K.full = false := by
  unfold Sk.full; simp; intro q; have := h.es; omega
theorem Plain.plc {n : Nat} {seed : Int} {g : Nat → ByteArray} {k : Nat} {K : Sk} (h : Plain n seed g k K) (l : List UInt8) (r : Nat) : K.plc l r = (Sk.new n seed 0).plc l r := by
  unfold Sk.plc; rw [h.eseed, h.en]; rfl
theorem Plain.add {n : Nat} {seed : Int} {g : Nat → ByteArray} {k : Nat} {K : Sk} (h : Plain n seed g k K) : Plain n seed g (k + 1) (K.add (g k).data.toList) := by
  have e : K.add (g k).data.toList = K.up (g k).data.toList := by unfold Sk.add; rw [h.full]; rfl
  rw [e]
  refine ⟨h.en, h.es, by show K.a + 1 = _; rw [h.ea], h.eseed, fun r i => ?_⟩
  show (if i = K.plc (g k).data.toList r then min 15 (K.c r i + 1) else K.c r i) = min 15 (sumN _ k + if i = (Sk.new n seed 0).plc (g k).data.toList r then 1 else 0)
  rw [h.plc, h.c r i]
  split <;> omega
theorem Plain.same {n : Nat} {seed : Int} {g : Nat → ByteArray} {k : Nat} {K L : Sk} (h : Plain n seed g k K) (t : Plain n seed (fun j => g (k - 1 - j)) k L) (r i : Nat) : K.c r i = L.c r i := by
  rw [h.c, t.c, ← sumN_rev k (fun j => if i = (Sk.new n seed 0).plc (g j).data.toList r then 1 else 0)]
theorem not_blocks {W : World} {p : Nat} {G Q : Nat → Nat} {K : Sk} (s : IsSk W p G Q K) {A : Nat} {o : Obj} (h : W.heap[A]? = some o) (h1 : ∀ cs f, o ≠ .cells cs 54 f) (h2 : ∀ cs f, o ≠ .cells cs 22 f) : A ∉ blocks p G := by
  intro hm
  rcases mem_blocks.1 hm with e | ⟨r, hr, e⟩
  · rw [e, s.obj] at h; exact h1 _ _ (Option.some.inj h).symm
  · obtain ⟨cur, hc, _⟩ := s.rows r hr
    rw [e, hc] at h; exact h2 _ _ (Option.some.inj h).symm
/-- Three sketches and a map. -/
structure Ts (w : World) (p : Nat) (G Q : Nat → Nat) (K : Sk) (q : Nat) (H P : Nat → Nat) (L : Sk) (u : Nat) (I J : Nat → Nat) (M : Sk) (m : Nat) (V : ByteArray → Int) (W : World) : Prop where
  bel : Below w.heap.size w W
  s1 : IsSk W p G Q K
  s2 : IsSk W q H P L
  s3 : IsSk W u I J M
  mp : Mp W m V
  d12 : ∀ i ∈ blocks p G, i ∉ blocks q H
  d13 : ∀ i ∈ blocks p G, i ∉ blocks u I
  d23 : ∀ i ∈ blocks q H, i ∉ blocks u I
  o1 : ∀ i ∈ blocks p G, w.heap.size ≤ i
  o2 : ∀ i ∈ blocks q H, w.heap.size ≤ i
  o3 : ∀ i ∈ blocks u I, w.heap.size ≤ i
  om : w.heap.size ≤ m
/-- And a call. -/
structure Ta (w : World) (p : Nat) (G Q : Nat → Nat) (K : Sk) (q : Nat) (H P : Nat → Nat) (L : Sk) (u : Nat) (I J : Nat → Nat) (M : Sk) (m : Nat) (V : ByteArray → Int) (A : Nat) (x : Int) (key : ByteArray) (W : World) : Prop where
  t : Ts w p G Q K q H P L u I J M m V W
  act : W.heap[A]? = some (.cells #[.int .i64 x, .string key] 37 (0, 0))
section
variable {w W W' : World} {p : Nat} {G Q : Nat → Nat} {K K' : Sk} {q : Nat} {H P : Nat → Nat} {L L' : Sk} {u : Nat} {I J : Nat → Nat} {M M' : Sk} {m m' : Nat} {V V' : ByteArray → Int} {A : Nat} {x : Int} {key : ByteArray}
theorem Ts.m1 (h : Ts w p G Q K q H P L u I J M m V W) : m ∉ blocks p G := by
  obtain ⟨es, c, hh, _⟩ := h.mp
  exact not_blocks h.s1 hh (by simp) (by simp)
theorem Ts.m2 (h : Ts w p G Q K q H P L u I J M m V W) : m ∉ blocks q H := by
  obtain ⟨es, c, hh, _⟩ := h.mp
  exact not_blocks h.s2 hh (by simp) (by simp)
theorem Ts.m3 (h : Ts w p G Q K q H P L u I J M m V W) : m ∉ blocks u I := by
  obtain ⟨es, c, hh, _⟩ := h.mp
  exact not_blocks h.s3 hh (by simp) (by simp)
theorem Ts.below (h : Ts w p G Q K q H P L u I J M m V W) (b : Below W.heap.size W W') : Ts w p G Q K q H P L u I J M m V W' :=
  ⟨h.bel.trans (b.mono h.bel.size), h.s1.below b, h.s2.below b, h.s3.below b, h.mp.below b, h.d12, h.d13, h.d23, h.o1, h.o2, h.o3, h.om⟩
theorem Ts.one (h : Ts w p G Q K q H P L u I J M m V W) (k : Keeps (blocks p G) W W') (t : IsSk W' p G Q K') : Ts w p G Q K' q H P L u I J M m V W' :=
  ⟨h.bel.trans (k.below h.o1 h.bel.size), t, h.s2.keep k (fun i hi hj => h.d12 i hj hi), h.s3.keep k (fun i hi hj => h.d13 i hj hi), h.mp.keep k h.m1, h.d12, h.d13, h.d23, h.o1, h.o2, h.o3, h.om⟩
theorem Ts.two (h : Ts w p G Q K q H P L u I J M m V W) (k : Keeps (blocks q H) W W') (t : IsSk W' q H P L') : Ts w p G Q K q H P L' u I J M m V W' :=
  ⟨h.bel.trans (k.below h.o2 h.bel.size), h.s1.keep k h.d12, t, h.s3.keep k (fun i hi hj => h.d23 i hj hi), h.mp.keep k h.m2, h.d12, h.d13, h.d23, h.o1, h.o2, h.o3, h.om⟩
theorem Ts.three (h : Ts w p G Q K q H P L u I J M m V W) (k : Keeps (blocks u I) W W') (t : IsSk W' u I J M') : Ts w p G Q K q H P L u I J M' m V W' :=
  ⟨h.bel.trans (k.below h.o3 h.bel.size), h.s1.keep k h.d13, h.s2.keep k h.d23, t, h.mp.keep k h.m3, h.d12, h.d13, h.d23, h.o1, h.o2, h.o3, h.om⟩
theorem Ts.map (h : Ts w p G Q K q H P L u I J M m V W) (k : Keeps [m] W W') (t : Mp W' m V') : Ts w p G Q K q H P L u I J M m V' W' :=
  ⟨h.bel.trans (k.below (by simpa using h.om) h.bel.size), h.s1.keep k (fun i hi hj => h.m1 (by rw [← List.mem_singleton.1 hj]; exact hi)), h.s2.keep k (fun i hi hj => h.m2 (by rw [← List.mem_singleton.1 hj]; exact hi)), h.s3.keep k (fun i hi hj => h.m3 (by rw [← List.mem_singleton.1 hj]; exact hi)), t, h.d12, h.d13, h.d23, h.o1, h.o2, h.o3, h.om⟩
theorem Ts.fresh (h : Ts w p G Q K q H P L u I J M m V W) (b : Below W.heap.size W W') (t : Mp W' m' V') (o : W.heap.size ≤ m') : Ts w p G Q K q H P L u I J M m' V' W' :=
  ⟨h.bel.trans (b.mono h.bel.size), h.s1.below b, h.s2.below b, h.s3.below b, t, h.d12, h.d13, h.d23, h.o1, h.o2, h.o3, Nat.le_trans h.bel.size o⟩
theorem Ta.below (h : Ta w p G Q K q H P L u I J M m V A x key W) (b : Below W.heap.size W W') : Ta w p G Q K q H P L u I J M m V A x key W' := ⟨h.t.below b, (b.block _ (lt_of_heap h.act)).trans h.act⟩
theorem Ta.one (h : Ta w p G Q K q H P L u I J M m V A x key W) (k : Keeps (blocks p G) W W') (t : IsSk W' p G Q K') : Ta w p G Q K' q H P L u I J M m V A x key W' := ⟨h.t.one k t, k.at h.act (not_blocks h.t.s1 h.act (by simp) (by simp))⟩
theorem Ta.two (h : Ta w p G Q K q H P L u I J M m V A x key W) (k : Keeps (blocks q H) W W') (t : IsSk W' q H P L') : Ta w p G Q K q H P L' u I J M m V A x key W' := ⟨h.t.two k t, k.at h.act (not_blocks h.t.s2 h.act (by simp) (by simp))⟩
theorem Ta.map (h : Ta w p G Q K q H P L u I J M m V A x key W) (k : Keeps [m] W W') (t : Mp W' m V') : Ta w p G Q K q H P L u I J M m V' A x key W' := ⟨h.t.map k t, k.at h.act (fun hj => by
  obtain ⟨es, c, hh, _⟩ := h.t.mp
  rw [← List.mem_singleton.1 hj, h.act] at hh; simp at hh)⟩
theorem Ta.fresh (h : Ta w p G Q K q H P L u I J M m V A x key W) (b : Below W.heap.size W W') (t : Mp W' m' V') (o : W.heap.size ≤ m') : Ta w p G Q K q H P L u I J M m' V' A x key W' := ⟨h.t.fresh b t o, (b.block _ (lt_of_heap h.act)).trans h.act⟩
theorem Ts.act (h : Ts w p G Q K q H P L u I J M m V W) (x : Int) (key : ByteArray) : Ta w p G Q K q H P L u I J M m V W.heap.size x key (W.alloc (.cells #[.int .i64 x, .string key] 37)) :=
  ⟨h.below ((Below.refl _ _).alloc (Nat.le_refl _) _), heap_new rfl⟩
end
end Go.Proofs.Ytffniljefbpoiaa
