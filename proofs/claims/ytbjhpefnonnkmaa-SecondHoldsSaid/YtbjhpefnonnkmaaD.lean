/-
  The contract of second.Use.
-/
import Derived.Test.YtbjhpefnonnkmaaC
namespace Go.Proofs.Ytbjhpefnonnkmaa
open Go.ChangeShapes Go.WideShapes Go.ChangeAt Go.RowKit
set_option linter.unusedVariables false

/-- What a request leaves. -/
def Used (w : World) (p r cap m : Nat) (o : Out) (e : Ending) (w' : World) : Prop :=
  e = .returned (.tuple #[.agg #[.bool o.hit, .bool o.left, .int .u32 o.out], .int .i64 0]) ∧ Keeps [p, r, m] w w' ∧ ∃ L', IsSec w' p r cap m o.R o.h L' ∧ MapOk o.R L'
/-- What Use sees: the cache, and the box of the result. -/
structure Boxed (w : World) (p r cap m : Nat) (R : List Pl) (h : Nat) (L : List (Int × Int)) (T : Array Value) (W : World) : Prop where
  k : Keeps [p, r, m] w W
  s : IsSec W p r cap m R h L
  b : W.heap[w.heap.size]? = some (.cells T 37 (0, 0))
theorem Boxed.start {p r cap m : Nat} {R : List Pl} {h : Nat} {L : List (Int × Int)} {w : World} (s : IsSec w p r cap m R h L) (T : Array Value) : Boxed w p r cap m R h L T (w.alloc (.cells T 37)) :=
  ⟨(Keeps.refl _ _).alloc _, ⟨heap_alloc s.obj _, s.row.alloc _, s.mp.alloc _, s.pr, s.pm, s.rm⟩, heap_new rfl⟩
theorem Boxed.ne {p r cap m : Nat} {R : List Pl} {h : Nat} {L : List (Int × Int)} {T : Array Value} {w W : World} (sw : IsSec w p r cap m R h L) : p < w.heap.size ∧ r < w.heap.size ∧ m < w.heap.size := ⟨lt_of_heap sw.obj, sw.row.lt, sw.mp.lt⟩
/-- The result is laid. -/
theorem Boxed.result {p r cap m : Nat} {R : List Pl} {h : Nat} {L : List (Int × Int)} {a b c : Value} {w W : World} (s : Boxed w p r cap m R h L #[a, b, c] W) (hp : p < w.heap.size) (hr : r < w.heap.size) (hm : m < w.heap.size) (x y z : Value) :
    Boxed w p r cap m R h L #[x, y, z] (((W.setCell ⟨w.heap.size, 0, none⟩ x).setCell ⟨w.heap.size, 1, none⟩ y).setCell ⟨w.heap.size, 2, none⟩ z) :=
  ⟨((s.k.setCell (.inr (Nat.le_refl _)) _).setCell (.inr (Nat.le_refl _)) _).setCell (.inr (Nat.le_refl _)) _,
   ⟨heap_other (heap_other (heap_other s.s.obj (by omega) _) (by omega) _) (by omega) _, ((s.s.row.other (by omega) _).other (by omega) _).other (by omega) _, ((s.s.mp.other (by omega) _).other (by omega) _).other (by omega) _, s.s.pr, s.s.pm, s.s.rm⟩,
   heap_set (heap_set (heap_set s.b _) _) _⟩
theorem Boxed.keep {p r cap m : Nat} {R R' : List Pl} {h h' : Nat} {L L' : List (Int × Int)} {T : Array Value} {w W W' : World} (s : Boxed w p r cap m R h L T W) (hp : p < w.heap.size) (hr : r < w.heap.size) (hm : m < w.heap.size) {S : List Nat} (k : Keeps S W W') (hS : ∀ i ∈ S, i ∈ [p, r, m]) (s' : IsSec W' p r cap m R' h' L') : Boxed w p r cap m R' h' L' T W' :=
  ⟨s.k.trans k fun i hi => .inl (hS i hi), s', k.at s.b fun hi => by have := hS _ hi; simp at this; omega⟩
theorem Boxed.drew {p r cap m : Nat} {R : List Pl} {h : Nat} {L : List (Int × Int)} {T : Array Value} {w W : World} (s : Boxed w p r cap m R h L T W) : Boxed w p r cap m R h L T W.drew := ⟨s.k.drew, s.s.drew, s.b⟩

theorem modify_set {R : List Pl} {i : Nat} {x : Pl} (hx : R[i]? = some x) (f : Pl → Pl) : R.modify i f = R.set i (f x) := by
  apply List.ext_getElem?
  intro j
  rw [List.getElem?_modify, List.getElem?_set]
  obtain ⟨hi, rfl⟩ := List.getElem?_eq_some_iff.1 hx
  by_cases hj : i = j
  · subst hj; simp [hi]
  · simp [hj]

theorem use_hit {p r cap m : Nat} {R : List Pl} {h i : Nat} {L : List (Int × Int)} {w : World} (k : Int) (s : IsSec w p r cap m R h L) (hM : MapOk R L) (hl : R.length ≤ 1024) (hk : atR R k = some i) :
    Calls Try.prog 11 #[.pointer (some ⟨p, 0, none⟩), .int .u32 k] w fun e w' => Used w p r cap m (useR R h k) e w' := by
  obtain ⟨j, hj⟩ := (hM.look k).1 i hk
  obtain ⟨x, hx, hf, _⟩ := atR_some hk
  have hi := (List.getElem?_eq_some_iff.1 hx).1
  have hu : useR R h k = ⟨R.set i ⟨x.key, x.full, true⟩, h, true, false, 0⟩ := by unfold useR; rw [hk]; simp only [modify_set hx]
  rw [hu]
  have hM' := hM.mark hx true
  clear hu hk hM
  have lo : ¬ ((i : Nat) : Int) < 0 := by omega
  have hi' : ((i : Nat) : Int) < (R.length : Int) := by omega
  obtain ⟨hp, hr, hm⟩ := Boxed.ne (T := #[]) (W := w) s
  go_enter Try.func11, Try.ntmps11
  go_upto_region 1 with fail
  refine wp_seen (Boxed w p r cap m R h L #[.bool false, .bool false, .int .u32 0]) (Boxed.start s _) ?_
  intro W b
  clear s
  have c0 : W.cell? ⟨p, 0, none⟩ = some (.slice (some ⟨r, 0, none⟩) R.length cap) := cell_of b.s.obj 0
  have c2 : W.cell? ⟨p, 2, none⟩ = some (.map (some m)) := cell_of b.s.obj 2
  have f2 : W.cell? ⟨r, i * 3 + 2, none⟩ = some (.bool x.mark) := b.s.row.cell hx 2 (by omega)
  have g2 : W.frozen? ⟨r, i * 3 + 2, none⟩ = false := b.s.row.frozen _
  have hlk := b.s.mp.look k
  rw [hj] at hlk
  go_upto_region 6 with (first | (go_at_call 23; refine (zero_is b.s).mono ?_; rintro e w' ⟨rfl, rfl⟩))
  refine wp_seen (Boxed w p r cap m (R.set i ⟨x.key, x.full, true⟩) h L #[.bool false, .bool false, .int .u32 0]) (b.keep hp hr hm ((Keeps.refl [r] _).setCell (.inl (by simp)) _) (by simp) (b.s.setMark hx true)) ?_
  intro W2 b2
  clear c0 c2 f2 g2 hlk b lo hi'
  have n0 : W2.cell? ⟨w.heap.size, 0, none⟩ = some (.bool false) := cell_of b2.b 0
  have n1 : W2.cell? ⟨w.heap.size, 1, none⟩ = some (.bool false) := cell_of b2.b 1
  have n2 : W2.cell? ⟨w.heap.size, 2, none⟩ = some (.int .u32 0) := cell_of b2.b 2
  have m0 : W2.frozen? ⟨w.heap.size, 0, none⟩ = false := frozen_of b2.b 0
  have m1 : W2.frozen? ⟨w.heap.size, 1, none⟩ = false := frozen_of b2.b 1
  have m2 : W2.frozen? ⟨w.heap.size, 2, none⟩ = false := frozen_of b2.b 2
  go_wp2_with fail
  refine post_seen (Boxed w p r cap m (R.set i ⟨x.key, x.full, true⟩) h L #[.bool true, .bool false, .int .u32 0]) (b2.result hp hr hm _ _ _) ?_
  intro W3 b3
  clear n0 n1 n2 m0 m1 m2
  have n0 : W3.cell? ⟨w.heap.size, 0, none⟩ = some (.bool true) := cell_of b3.b 0
  have n1 : W3.cell? ⟨w.heap.size, 1, none⟩ = some (.bool false) := cell_of b3.b 1
  have n2 : W3.cell? ⟨w.heap.size, 2, none⟩ = some (.int .u32 0) := cell_of b3.b 2
  exact bodyPost_ret (v := .tuple #[.agg #[.bool true, .bool false, .int .u32 0], .int .i64 0]) (by simp [results, Try.results11, go_sem, n0, n1, n2]) rfl ⟨rfl, b3.k, L, b3.s, hM'⟩

theorem use_free {p r cap m : Nat} {R : List Pl} {h i : Nat} {L : List (Int × Int)} {w : World} (k : Int) (s : IsSec w p r cap m R h L) (hM : MapOk R L) (hl : R.length ≤ 1024) (hk : atR R k = none) (hfr : freeR R = some i) :
    Calls Try.prog 11 #[.pointer (some ⟨p, 0, none⟩), .int .u32 k] w fun e w' => Used w p r cap m (useR R h k) e w' := by
  have hj := (hM.look k).2 hk
  obtain ⟨x, hx, hf⟩ := freeR_some hfr
  have hi := (List.getElem?_eq_some_iff.1 hx).1
  have hu : useR R h k = ⟨R.set i ⟨k, true, false⟩, h, false, false, 0⟩ := by unfold useR; rw [hk]; simp only [hfr]
  rw [hu]
  have hM' := hM.put hk hx hf false
  have hlt : (L.length : Int) < (R.length : Int) := by
    have := free_iff.2 (show freeR R ≠ none by rw [hfr]; simp)
    rw [hM.length]; omega
  clear hu hk hM
  obtain ⟨hp, hr, hm⟩ := Boxed.ne (T := #[]) (W := w) s
  go_enter Try.func11, Try.ntmps11
  go_upto_region 1 with fail
  refine wp_seen (Boxed w p r cap m R h L #[.bool false, .bool false, .int .u32 0]) (Boxed.start s _) ?_
  intro W b
  clear s
  have c0 : W.cell? ⟨p, 0, none⟩ = some (.slice (some ⟨r, 0, none⟩) R.length cap) := cell_of b.s.obj 0
  have c2 : W.cell? ⟨p, 2, none⟩ = some (.map (some m)) := cell_of b.s.obj 2
  have hlk := b.s.mp.look k
  rw [hj] at hlk
  have hln := (show Mp W.drew m L from b.s.mp).len
  go_upto_region 7 with (first | (go_at_call 23; refine (zero_is b.s).mono ?_; rintro e w' ⟨rfl, rfl⟩))
  go_region
  refine ex_seen (Boxed w p r cap m R h L #[.bool false, .bool false, .int .u32 0]) b.drew ?_
  intro W1 b1
  clear c0 c2 hlk hln b
  have c0 : W1.cell? ⟨p, 0, none⟩ = some (.slice (some ⟨r, 0, none⟩) R.length cap) := cell_of b1.s.obj 0
  go_upto_region 9 with (first | (go_at_call 25; refine (indexFunc_is b1.s.row hl hfr).mono ?_; rintro e w' ⟨rfl, hb⟩; have bq := b1.keep hp hr hm (Keeps.of_below (S := []) hb) (by simp) (b1.s.below hb); clear c0) | (go_at_call 24; refine (put_is k bq.s hi hl hj).mono ?_; rintro e w3 ⟨rfl, k3, s3⟩; have b2 := bq.keep hp hr hm k3 (by simp) s3))
  refine wp_seen (Boxed w p r cap m (R.set i ⟨k, true, false⟩) h (L ++ [(k, (i : Int))]) #[.bool false, .bool false, .int .u32 0]) b2 ?_
  clear b2
  intro W2 b2
  have n0 : W2.cell? ⟨w.heap.size, 0, none⟩ = some (.bool false) := cell_of b2.b 0
  have n1 : W2.cell? ⟨w.heap.size, 1, none⟩ = some (.bool false) := cell_of b2.b 1
  have n2 : W2.cell? ⟨w.heap.size, 2, none⟩ = some (.int .u32 0) := cell_of b2.b 2
  have m0 : W2.frozen? ⟨w.heap.size, 0, none⟩ = false := frozen_of b2.b 0
  have m1 : W2.frozen? ⟨w.heap.size, 1, none⟩ = false := frozen_of b2.b 1
  have m2 : W2.frozen? ⟨w.heap.size, 2, none⟩ = false := frozen_of b2.b 2
  go_wp2_with fail
  refine post_seen (Boxed w p r cap m (R.set i ⟨k, true, false⟩) h (L ++ [(k, (i : Int))]) #[.bool false, .bool false, .int .u32 0]) (b2.result hp hr hm _ _ _) ?_
  intro W3 b3
  clear n0 n1 n2 m0 m1 m2
  have n0 : W3.cell? ⟨w.heap.size, 0, none⟩ = some (.bool false) := cell_of b3.b 0
  have n1 : W3.cell? ⟨w.heap.size, 1, none⟩ = some (.bool false) := cell_of b3.b 1
  have n2 : W3.cell? ⟨w.heap.size, 2, none⟩ = some (.int .u32 0) := cell_of b3.b 2
  exact bodyPost_ret (v := .tuple #[.agg #[.bool false, .bool false, .int .u32 0], .int .i64 0]) (by simp [results, Try.results11, go_sem, n0, n1, n2]) rfl ⟨rfl, b3.k, _, b3.s, hM'⟩

/-- How many places a world marks. -/
def marksIn (w : World) (r n : Nat) : Nat := (List.range n).countP fun i => match w.cell? ⟨r, i * 3 + 2, none⟩ with | some (.bool b) => b | _ => false
theorem Row.marks {w : World} {e : TypeId} {r cap n : Nat} {R : List Pl} (h : Row w e r cap R) (hn : R.length = n) : marksIn w r n = Proofs.Ytbjhpefnonnkmaa.marks R := by
  subst hn
  have e : R.map (·.mark) = (List.range R.length).map fun i => match w.cell? ⟨r, i * 3 + 2, none⟩ with | some (.bool b) => b | _ => false := by
    apply List.ext_getElem
    · simp
    · intro i h1 h2
      have hi : i < R.length := by simpa using h1
      have := h.cell (List.getElem?_eq_getElem hi) 2 (by omega)
      simp [this, plC]
  have h1 : Proofs.Ytbjhpefnonnkmaa.marks R = (R.map (·.mark)).countP id := by rw [List.countP_map]; rfl
  rw [h1, e, List.countP_map]
  rfl
theorem sweep_step {f : Nat} {R : List Pl} {h : Nat} {x : Pl} (hx : R[h]? = some x) (hm : x.mark = true) (hf : Proofs.Ytbjhpefnonnkmaa.marks R ≤ f) : ∃ g, f = g + 1 ∧ sweep f R h = sweep g (R.set h ⟨x.key, x.full, false⟩) ((h + 1) % R.length) ∧ Proofs.Ytbjhpefnonnkmaa.marks (R.set h ⟨x.key, x.full, false⟩) ≤ g := by
  have := marks_unmark hx hm
  obtain ⟨g, rfl⟩ : ∃ g, f = g + 1 := ⟨f - 1, by omega⟩
  exact ⟨g, rfl, by simp [sweep, hx, hm], by omega⟩
theorem sweep_stop {f : Nat} {R : List Pl} {h : Nat} {x : Pl} (hx : R[h]? = some x) (hm : x.mark = false) : sweep f R h = (R, h) := by
  cases f with
  | zero => rfl
  | succ f => simp [sweep, hx, hm]
theorem set_full {R : List Pl} (h : ∀ x ∈ R, x.full = true) {i : Nat} {y : Pl} (hy : y.full = true) : ∀ x ∈ R.set i y, x.full = true := by
  intro x hx
  rcases List.mem_or_eq_of_mem_set hx with q | q
  · exact h x q
  · rw [q]; exact hy
theorem all_full {R : List Pl} (h : freeR R = none) : ∀ x ∈ R, x.full = true := by
  intro x hx
  simpa using List.findIdx?_eq_none_iff.1 h x hx
/-- The hand is on its way. -/
structure Sweeps (R0 : List Pl) (h0 : Nat) (k : Int) (R : List Pl) (h : Nat) (f : Nat) : Prop where
  len : R.length = R0.length
  hand : h < R0.length
  full : ∀ x ∈ R, x.full = true
  no : atR R k = none
  le : Proofs.Ytbjhpefnonnkmaa.marks R ≤ f
  eq : sweep R0.length R0 h0 = sweep f R h
theorem atR_mark {R : List Pl} {k : Int} {i : Nat} {x : Pl} (hx : R[i]? = some x) (b : Bool) (h : atR R k = none) : atR (R.set i ⟨x.key, x.full, b⟩) k = none := by
  unfold atR at *
  rw [List.findIdx?_eq_none_iff] at *
  intro y hy
  rcases List.mem_or_eq_of_mem_set hy with q | q
  · exact h y q
  · rw [q]; exact h x (List.mem_of_getElem? hx)
end Go.Proofs.Ytbjhpefnonnkmaa
