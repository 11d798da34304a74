/-
  Any filters and any boxes of the reference's that share no memory, and the contracts at them.
-/
import Derived.Test.YtihgidkkdjmlkaaR
namespace Go.Proofs.Ytihgidkkdjmlkaa
open Go.ChangeShapes Go.WideShapes Go.ChangeAt Go.RowKit
set_option linter.unusedVariables false

/-- A box (its block, the row's block and room, what it holds); a filter (its block, the row's block and room, what it holds). -/
structure Bx where
  R : Nat
  r : Nat
  c : Nat
  K : Bl
structure Fl where
  p : Nat
  g : Nat
  q : Nat
  K : Bl
structure St (w : World) (bs : List Bx) (fs : List Fl) (W : World) : Prop where
  bel : Below w.heap.size w W
  box : ∀ b ∈ bs, W.heap[b.R]? = some (.cells (refC b.K b.r b.c) 25 (0, 0)) ∧ Bools W b.r b.K.n b.c b.K.b ∧ w.heap.size ≤ b.R
  fil : ∀ f ∈ fs, IsBl W f.p f.g f.q f.K ∧ w.heap.size ≤ f.g
  apb : bs.Pairwise fun a b => a.R ≠ b.R
  apf : fs.Pairwise fun a b => a.g ≠ b.g
theorem ne_type {W : World} {a b : Nat} {cs ds : Array Value} {t u : TypeId} {f k : Nat × Nat} (h : W.heap[a]? = some (.cells cs t f)) (h' : W.heap[b]? = some (.cells ds u k)) (hne : t ≠ u) : a ≠ b := fun e => by
  rw [e, h'] at h
  simp at h
  exact hne h.2.1.symm
theorem Bools.obj {W : World} {g n cap : Nat} {f : Nat → Bool} (h : Bools W g n cap f) : ∃ cs, W.heap[g]? = some (.cells cs 4 (0, 0)) := by obtain ⟨c, h, _⟩ := h; exact ⟨c, h⟩
theorem IsBl.row_obj {W : World} {p g q : Nat} {K : Bl} (h : IsBl W p g q K) : ∃ cs, W.heap[g]? = some (.cells cs 22 (0, 0)) := by obtain ⟨c, h, _⟩ := h.row; exact ⟨c, h⟩
theorem pair_set {α : Type} {P : α → α → Prop} (sym : ∀ a b, P a b → P b a) {l : List α} {i : Nat} {x y : α} (h : l.Pairwise P) (hx : l[i]? = some x) (hy : ∀ a, P a x → P a y) : (l.set i y).Pairwise P := by
  rw [List.pairwise_iff_getElem] at h ⊢
  intro j k hj hk hjk
  have hi := (List.getElem?_eq_some_iff.1 hx).1
  have hxe : l[i] = x := (List.getElem?_eq_some_iff.1 hx).2
  simp only [List.length_set] at hj hk
  rw [List.getElem_set, List.getElem_set]
  have hjk2 := h j k hj hk hjk
  by_cases e1 : i = j
  · subst e1
    rw [if_pos rfl, if_neg (by omega)]
    rw [hxe] at hjk2
    exact sym _ _ (hy _ (sym _ _ hjk2))
  · by_cases e2 : i = k
    · subst e2
      rw [if_neg e1, if_pos rfl]
      rw [hxe] at hjk2
      exact hy _ hjk2
    · rw [if_neg e1, if_neg e2]; exact hjk2
theorem mem_set_idx {α : Type} {l : List α} {i : Nat} {y a : α} (h : a ∈ l.set i y) : (a = y ∧ i < l.length) ∨ ∃ j, j ≠ i ∧ l[j]? = some a := by
  obtain ⟨j, hj⟩ := List.mem_iff_getElem?.1 h
  rw [List.getElem?_set] at hj
  by_cases e : i = j
  · subst e
    rw [if_pos rfl] at hj
    split at hj
    · rename_i q
      exact .inl ⟨by simpa using hj.symm, q⟩
    · cases hj
  · rw [if_neg e] at hj
    exact .inr ⟨j, fun q => e q.symm, hj⟩
theorem pair_get {α : Type} {P : α → α → Prop} (sym : ∀ a b, P a b → P b a) {l : List α} {i j : Nat} {x y : α} (h : l.Pairwise P) (hx : l[i]? = some x) (hy : l[j]? = some y) (hne : i ≠ j) : P x y := by
  rw [List.pairwise_iff_getElem] at h
  obtain ⟨hi, rfl⟩ := List.getElem?_eq_some_iff.1 hx
  obtain ⟨hj, rfl⟩ := List.getElem?_eq_some_iff.1 hy
  by_cases q : i < j
  · exact h i j hi hj q
  · exact sym _ _ (h j i hj hi (by omega))
section
variable {w W V : World} {bs : List Bx} {fs : List Fl} {i j : Nat} {b a : Bx} {f d : Fl} {M : Bl}
theorem St.start (w : World) : St w [] [] w := ⟨Below.refl _ _, fun b h => by simp at h, fun f h => by simp at h, List.Pairwise.nil, List.Pairwise.nil⟩
theorem St.of_below (h : Below w.heap.size w W) : St w [] [] W := ⟨h, fun b h => by simp at h, fun f h => by simp at h, List.Pairwise.nil, List.Pairwise.nil⟩
theorem St.step (z : St w bs fs W) (k : Below W.heap.size W V) : St w bs fs V :=
  ⟨z.bel.trans (k.mono z.bel.size), fun b hb => ⟨(k.block _ (lt_of_heap (z.box b hb).1)).trans (z.box b hb).1, (z.box b hb).2.1.below k, (z.box b hb).2.2⟩, fun f hf => ⟨(z.fil f hf).1.below k, (z.fil f hf).2⟩, z.apb, z.apf⟩
theorem St.alloc (z : St w bs fs W) (o : Obj) : St w bs fs (W.alloc o) := z.step ((Below.refl _ _).alloc (Nat.le_refl _) _)
theorem St.get (z : St w bs fs W) (h : fs[i]? = some f) : IsBl W f.p f.g f.q f.K := (z.fil f (List.mem_of_getElem? h)).1
theorem St.bget (z : St w bs fs W) (h : bs[i]? = some b) : Bools W b.r b.K.n b.c b.K.b := (z.box b (List.mem_of_getElem? h)).2.1
theorem St.cells (z : St w bs fs W) (h : bs[i]? = some b) : W.cell? ⟨b.R, 0, none⟩ = some (.int .i64 (b.K.h : Nat)) ∧ W.cell? ⟨b.R, 1, none⟩ = some (.int .u64 b.K.seed) ∧ W.cell? ⟨b.R, 2, none⟩ = some (.slice (some ⟨b.r, 0, none⟩) b.K.n b.c) := by
  have q := (z.box b (List.mem_of_getElem? h)).1
  exact ⟨cell_of q 0, cell_of q 1, cell_of q 2⟩
theorem St.frozen (z : St w bs fs W) (h : bs[i]? = some b) (k : Nat) : W.frozen? ⟨b.R, k, none⟩ = false := frozen_of (z.box b (List.mem_of_getElem? h)).1 k
/-- A new box. -/
theorem St.newBox (z : St w bs fs W) (s : Bools W a.r a.K.n a.c a.K.b) (hR : a.R = W.heap.size) : St w (a :: bs) fs (W.alloc (.cells #[.int .i64 (a.K.h : Nat), .int .u64 a.K.seed, .slice (some ⟨a.r, 0, none⟩) a.K.n a.c] 25)) := by
  have z2 := z.alloc (.cells #[.int .i64 (a.K.h : Nat), .int .u64 a.K.seed, .slice (some ⟨a.r, 0, none⟩) a.K.n a.c] 25)
  refine ⟨z2.bel, fun b hb => ?_, z2.fil, List.pairwise_cons.2 ⟨fun b hb => ?_, z.apb⟩, z.apf⟩
  · rcases List.mem_cons.1 hb with rfl | hb
    · exact ⟨heap_new hR, s.alloc _, by rw [hR]; exact z.bel.size⟩
    · exact z2.box b hb
  · have := lt_of_heap (z.box b hb).1
    omega
/-- A new filter. -/
theorem St.newFil (z : St w bs fs W) (k : Below W.heap.size W V) (h1 : W.heap.size ≤ f.g) (s : IsBl V f.p f.g f.q f.K) : St w bs (f :: fs) V := by
  have z2 := z.step k
  refine ⟨z2.bel, z2.box, fun d hd => ?_, z.apb, List.pairwise_cons.2 ⟨fun d hd => ?_, z.apf⟩⟩
  · rcases List.mem_cons.1 hd with rfl | hd
    · exact ⟨s, Nat.le_trans z.bel.size h1⟩
    · exact z2.fil d hd
  · have := (z.fil d hd).1.lt
    omega
/-- A filter changed. -/
theorem St.put (z : St w bs fs W) (h : fs[i]? = some f) (k : Keeps [f.g] W V) (s : IsBl V f.p f.g f.q M) : St w bs (fs.set i ⟨f.p, f.g, f.q, M⟩) V := by
  have hf := z.fil f (List.mem_of_getElem? h)
  obtain ⟨cf, of⟩ := hf.1.row_obj
  refine ⟨z.bel.trans (k.below (by simpa using hf.2) z.bel.size), fun b hb => ?_, fun d hd => ?_, z.apb, pair_set (P := fun a b => a.g ≠ b.g) (y := ⟨f.p, f.g, f.q, M⟩) (fun _ _ h => h.symm) z.apf h (fun _ h => h)⟩
  · obtain ⟨x, s1, l⟩ := z.box b hb
    obtain ⟨cs, os⟩ := s1.obj
    exact ⟨k.at x (by simpa using ne_type x of (by decide)), s1.keep k (by simpa using ne_type os of (by decide)), l⟩
  · rcases mem_set_idx hd with ⟨rfl, _⟩ | ⟨j, hj, hd⟩
    · exact ⟨s, hf.2⟩
    · have hd' := z.fil d (List.mem_of_getElem? hd)
      have hne := pair_get (P := fun a b => a.g ≠ b.g) (fun _ _ h => h.symm) z.apf hd h hj
      exact ⟨hd'.1.keep k (by simpa using ne_type hd'.1.obj of (by decide)) (by simpa using hne), hd'.2⟩
/-- A box changed. -/
theorem St.store {r c : Nat} (z : St w bs fs W) (h : bs[i]? = some b) (hn : M.n = b.K.n) (s : Bools W r M.n c M.b) : St w (bs.set i ⟨b.R, r, c, M⟩) fs (((W.setCell ⟨b.R, 0, none⟩ (.int .i64 (M.h : Nat))).setCell ⟨b.R, 1, none⟩ (.int .u64 M.seed)).setCell ⟨b.R, 2, none⟩ (.slice (some ⟨r, 0, none⟩) M.n c)) := by
  obtain ⟨x, s1, l⟩ := z.box b (List.mem_of_getElem? h)
  have far : ∀ {p : Nat} {o : Obj}, W.heap[p]? = some o → p ≠ b.R → (((W.setCell ⟨b.R, 0, none⟩ (.int .i64 (M.h : Nat))).setCell ⟨b.R, 1, none⟩ (.int .u64 M.seed)).setCell ⟨b.R, 2, none⟩ (.slice (some ⟨r, 0, none⟩) M.n c)).heap[p]? = some o := fun hp hne => heap_other (heap_other (heap_other hp hne _) hne _) hne _
  have farB : ∀ {r n c : Nat} {f : Nat → Bool}, Bools W r n c f → ∀ M' : Value × Value × Value, Bools (((W.setCell ⟨b.R, 0, none⟩ M'.1).setCell ⟨b.R, 1, none⟩ M'.2.1).setCell ⟨b.R, 2, none⟩ M'.2.2) r n c f := fun s M' => by
    have hne := (s.ne_of x (by decide)).symm
    exact ((s.other hne _).other hne _).other hne _
  refine ⟨below_put (below_put (below_put z.bel l _) l _) l _, fun a ha => ?_, fun d hd => ?_, pair_set (P := fun a b => a.R ≠ b.R) (y := ⟨b.R, r, c, M⟩) (fun _ _ h => h.symm) z.apb h (fun _ h => h), z.apf⟩
  · rcases mem_set_idx ha with ⟨rfl, _⟩ | ⟨j, hj, ha⟩
    · exact ⟨heap_set (heap_set (heap_set x _) _) _, farB s (.int .i64 (M.h : Nat), .int .u64 M.seed, .slice (some ⟨r, 0, none⟩) M.n c), l⟩
    · obtain ⟨xa, sa, la⟩ := z.box a (List.mem_of_getElem? ha)
      have hne := pair_get (P := fun a b => a.R ≠ b.R) (fun _ _ h => h.symm) z.apb ha h hj
      exact ⟨far xa hne, farB sa (.int .i64 (M.h : Nat), .int .u64 M.seed, .slice (some ⟨r, 0, none⟩) M.n c), la⟩
  · obtain ⟨s2, l2⟩ := z.fil d hd
    obtain ⟨cs, os⟩ := s2.row_obj
    have n1 := ne_type s2.obj x (by decide)
    have n2 := ne_type os x (by decide)
    exact ⟨((s2.far n1 n2 _).far n1 n2 _).far n1 n2 _, l2⟩
theorem St.done (z : St w bs fs W) : Below w.heap.size w W := z.bel
/-- The contracts. -/
theorem t_known (z : St w bs fs W) : Calls Try.prog 10 #[] W fun e w' => e = .returned (.bool true) ∧ St w bs fs w' :=
  (known_any W).mono fun e w' ⟨q1, q2⟩ => ⟨q1, z.step q2⟩
theorem t_new {K : Bl} (z : St w bs fs W) (hK : K.Ok) (hb : K.b = fun _ => false) : Calls Try.prog 11 #[.int .i64 (K.n : Nat), .int .i64 (K.h : Nat), .int .u64 K.seed] W fun e w' => ∃ p g, e = .returned (.tuple #[.pointer (some ⟨p, 0, none⟩), .int .i64 0]) ∧ St w bs (⟨p, g, K.n / 64, K⟩ :: fs) w' :=
  (k_new hK hb W).mono fun e w' ⟨p, g, q1, q2, q3, q4, q5⟩ => ⟨p, g, q1, z.newFil (f := ⟨p, g, K.n / 64, K⟩) q2 q4 q5⟩
theorem t_rnew {K : Bl} (z : St w bs fs W) (hK : K.Ok) (hb : K.b = fun _ => false) : Calls Try.prog 9 #[.int .i64 (K.n : Nat), .int .i64 (K.h : Nat), .int .u64 K.seed] W fun e w' => ∃ r, e = .returned (.tuple #[.agg #[.int .i64 (K.h : Nat), .int .u64 K.seed, .slice (some ⟨r, 0, none⟩) K.n K.n], .int .i64 0]) ∧ St w bs fs w' ∧ Bools w' r K.n K.n K.b :=
  (k_rnew hK hb W).mono fun e w' ⟨r, q1, q2, q3, q4⟩ => ⟨r, q1, z.step q3, q2⟩
theorem t_rnewNo {n h seed : Int} (z : St w bs fs W) (hn : 0 ≤ n → sizeB n.toNat = true → h < 1 ∨ 8 < h) : Calls Try.prog 9 #[.int .i64 n, .int .i64 h, .int .u64 seed] W fun e w' => e = .returned (.tuple #[.agg #[.int .i64 0, .int .u64 0, .slice none 0 0], .int .i64 2]) ∧ St w bs fs w' :=
  (rnew_no n h seed hn W).mono fun e w' ⟨q1, q2⟩ => ⟨q1, z.step q2⟩
theorem t_adds {p g q : Nat} {K : Bl} (z : St w bs fs W) (h : fs[i]? = some ⟨p, g, q, K⟩) (hK : K.Ok) (key : ByteArray) (hs : key.size ≤ maxLen) (v : Bool) (hv : (!K.has key.data.toList) = v) : Calls Try.prog 15 #[.pointer (some ⟨p, 0, none⟩), .string key, .bool v] W fun e w' => e = .returned (.bool true) ∧ St w bs (fs.set i ⟨p, g, q, K.add key.data.toList⟩) w' :=
  (adds_is (z.get h) hK key hs v hv).mono fun e w' ⟨q1, q2, q3⟩ => ⟨q1, z.put h q2 q3⟩
theorem t_add {p g q : Nat} {K : Bl} (z : St w bs fs W) (h : fs[i]? = some ⟨p, g, q, K⟩) (hK : K.Ok) (key : ByteArray) (hs : key.size ≤ maxLen) : Calls Try.prog 22 #[.pointer (some ⟨p, 0, none⟩), .string key] W fun e w' => e = .returned (.tuple #[.bool (!K.has key.data.toList), .int .i64 0]) ∧ St w bs (fs.set i ⟨p, g, q, K.add key.data.toList⟩) w' :=
  (add_is (z.get h) hK key hs).mono fun e w' ⟨q1, q2, q3⟩ => ⟨q1, z.put h q2 q3⟩
theorem t_has {p g q : Nat} {K : Bl} (z : St w bs fs W) (h : fs[i]? = some ⟨p, g, q, K⟩) (hK : K.Ok) (key : ByteArray) (hs : key.size ≤ maxLen) : Calls Try.prog 16 #[.pointer (some ⟨p, 0, none⟩), .string key] W fun e w' => e = .returned (.bool (K.has key.data.toList)) ∧ St w bs fs w' :=
  (has_is (z.get h) hK key hs).mono fun e w' ⟨q1, q2⟩ => ⟨q1, z.step q2⟩
theorem t_ones {p g q : Nat} {K : Bl} (z : St w bs fs W) (h : fs[i]? = some ⟨p, g, q, K⟩) (hK : K.Ok) : Calls Try.prog 17 #[.pointer (some ⟨p, 0, none⟩)] W fun e w' => e = .returned (.int .i64 (K.ones : Nat)) ∧ St w bs fs w' :=
  (ones_is (z.get h) hK).mono fun e w' ⟨q1, q2⟩ => ⟨q1, q2 ▸ z⟩
theorem t_words {p g q : Nat} {K : Bl} (z : St w bs fs W) (h : fs[i]? = some ⟨p, g, q, K⟩) (hK : K.Ok) : Calls Try.prog 24 #[.pointer (some ⟨p, 0, none⟩)] W fun e w' => ∃ d, e = .returned (.slice (some ⟨d, 0, none⟩) (K.n / 64) (K.n / 64)) ∧ St w bs fs w' ∧ Nums w' .u64 22 d (K.n / 64) (K.n / 64) (wordsF K.b) ∧ Below W.heap.size W w' ∧ W.heap.size ≤ d :=
  (words_is (z.get h) hK).mono fun e w' ⟨d, q1, q2, q3, q4⟩ => ⟨d, q1, z.step q2, q4, q2, q3⟩
theorem t_clear {p g q : Nat} {K : Bl} (z : St w bs fs W) (h : fs[i]? = some ⟨p, g, q, K⟩) (hK : K.Ok) : Calls Try.prog 25 #[.pointer (some ⟨p, 0, none⟩)] W fun e w' => e = .returned (.int .i64 0) ∧ St w bs (fs.set i ⟨p, g, q, K.none⟩) w' :=
  (clear_is (z.get h) hK).mono fun e w' ⟨q1, q2, q3⟩ => ⟨q1, z.put h q2 q3⟩
theorem t_copy {p g q : Nat} {K : Bl} (z : St w bs fs W) (h : fs[i]? = some ⟨p, g, q, K⟩) (hK : K.Ok) : Calls Try.prog 26 #[.pointer (some ⟨p, 0, none⟩)] W fun e w' => ∃ p' g', e = .returned (.pointer (some ⟨p', 0, none⟩)) ∧ St w bs (⟨p', g', K.n / 64, K⟩ :: fs) w' :=
  (copy_is (z.get h) hK).mono fun e w' ⟨p', g', q1, q2, q3, q4, q5⟩ => ⟨p', g', q1, z.newFil (f := ⟨p', g', K.n / 64, K⟩) q2 q4 q5⟩
theorem t_join {p g q p2 g2 q2 : Nat} {K M : Bl} (z : St w bs fs W) (h : fs[i]? = some ⟨p, g, q, K⟩) (h2 : fs[j]? = some ⟨p2, g2, q2, M⟩) (hne : j ≠ i) (hK : K.Ok) (hM : M.Ok) (hl : K.like M = true) : Calls Try.prog 20 #[.pointer (some ⟨p, 0, none⟩), .pointer (some ⟨p2, 0, none⟩)] W fun e w' => e = .returned (.int .i64 0) ∧ St w bs (fs.set i ⟨p, g, q, K.join M⟩) w' :=
  (join_is (z.get h) hK (z.get h2) hM hl (pair_get (P := fun a b => a.g ≠ b.g) (fun _ _ h => h.symm) z.apf h2 h hne)).mono fun e w' ⟨q1, q2, q3⟩ => ⟨q1, z.put h q2 q3⟩
theorem t_joinNo {p g q p2 g2 q2 : Nat} {K M : Bl} (z : St w bs fs W) (h : fs[i]? = some ⟨p, g, q, K⟩) (h2 : fs[j]? = some ⟨p2, g2, q2, M⟩) (hK : K.Ok) (hM : M.Ok) (hl : ¬ K.like M = true) : Calls Try.prog 20 #[.pointer (some ⟨p, 0, none⟩), .pointer (some ⟨p2, 0, none⟩)] W fun e w' => e = .returned (.int .i64 10) ∧ St w bs fs w' :=
  (join_no (z.get h) hK (z.get h2) hM hl).mono fun e w' ⟨q1, q2⟩ => ⟨q1, z.step q2⟩
theorem t_equal {p g q R r c : Nat} {K : Bl} (z : St w bs fs W) (h : fs[i]? = some ⟨p, g, q, K⟩) (h2 : bs[j]? = some ⟨R, r, c, K⟩) (hK : K.Ok) (key : ByteArray) (hs : key.size ≤ maxLen) : Calls Try.prog 12 #[.pointer (some ⟨p, 0, none⟩), .agg #[.int .i64 (K.h : Nat), .int .u64 K.seed, .slice (some ⟨r, 0, none⟩) K.n c], .string key] W fun e w' => e = .returned (.bool true) ∧ St w bs fs w' :=
  (equal_is (r := r) (c := c) (z.get h) (z.bget h2) hK key hs).mono fun e w' ⟨q1, q2⟩ => ⟨q1, z.step q2⟩
theorem t_radd {R r c : Nat} {K : Bl} (z : St w bs fs W) (h : bs[i]? = some ⟨R, r, c, K⟩) (hK : K.Ok) (key : ByteArray) (hs : key.size ≤ maxLen) : Calls Try.prog 18 #[.agg #[.int .i64 (K.h : Nat), .int .u64 K.seed, .slice (some ⟨r, 0, none⟩) K.n c], .string key] W fun e w' => ∃ r' c', e = .returned (.tuple #[.agg #[.int .i64 (K.h : Nat), .int .u64 K.seed, .slice (some ⟨r', 0, none⟩) K.n c'], .bool (!K.has key.data.toList)]) ∧ St w bs fs w' ∧ Bools w' r' K.n c' (K.add key.data.toList).b :=
  (radd_is (r := r) (c := c) (z.bget h) hK key hs).mono fun e w' ⟨r', c', q1, q2, q3, q4⟩ => ⟨r', c', q1, z.step q3, q2⟩
theorem t_rjoin {R r c R2 r2 c2 : Nat} {K M : Bl} (z : St w bs fs W) (h : bs[i]? = some ⟨R, r, c, K⟩) (h2 : bs[j]? = some ⟨R2, r2, c2, M⟩) (hK : K.Ok) (hM : M.Ok) (hl : K.like M = true) : Calls Try.prog 19 #[.agg #[.int .i64 (K.h : Nat), .int .u64 K.seed, .slice (some ⟨r, 0, none⟩) K.n c], .agg #[.int .i64 (M.h : Nat), .int .u64 M.seed, .slice (some ⟨r2, 0, none⟩) M.n c2]] W fun e w' => ∃ r' c', e = .returned (.tuple #[.agg #[.int .i64 (K.h : Nat), .int .u64 K.seed, .slice (some ⟨r', 0, none⟩) K.n c'], .int .i64 0]) ∧ St w bs fs w' ∧ Bools w' r' K.n c' (K.join M).b :=
  (rjoin_is (r := r) (c := c) (r2 := r2) (c2 := c2) (z.bget h) hK (z.bget h2) hM hl).mono fun e w' ⟨r', c', q1, q2, q3, q4⟩ => ⟨r', c', q1, z.step q3, q2⟩
theorem t_rjoinNo {R r c R2 r2 c2 : Nat} {K M : Bl} (z : St w bs fs W) (h : bs[i]? = some ⟨R, r, c, K⟩) (h2 : bs[j]? = some ⟨R2, r2, c2, M⟩) (hK : K.Ok) (hM : M.Ok) (hl : ¬ K.like M = true) : Calls Try.prog 19 #[.agg #[.int .i64 (K.h : Nat), .int .u64 K.seed, .slice (some ⟨r, 0, none⟩) K.n c], .agg #[.int .i64 (M.h : Nat), .int .u64 M.seed, .slice (some ⟨r2, 0, none⟩) M.n c2]] W fun e w' => e = .returned (.tuple #[.agg #[.int .i64 (K.h : Nat), .int .u64 K.seed, .slice (some ⟨r, 0, none⟩) K.n c], .int .i64 10]) ∧ St w bs fs w' ∧ Bools w' r K.n c K.b :=
  (rjoin_no (r := r) (c := c) (r2 := r2) (c2 := c2) (z.bget h) hK (z.bget h2) hM hl).mono fun e w' ⟨q1, q2⟩ => ⟨q1, z.step q2, (z.bget h).below q2⟩
end
end Go.Proofs.Ytihgidkkdjmlkaa
