/-
  The contracts of Has, Add and Places.
-/
import Derived.Test.YtihgidkkdjmlkaaE
namespace Go.Proofs.Ytihgidkkdjmlkaa
open Go.ChangeShapes Go.WideShapes Go.ChangeAt Go.RowKit
set_option linter.unusedVariables false

def Bl.hasN (K : Bl) (key : List UInt8) (i : Nat) : Bool := (List.range i).all fun j => K.b (K.plc key j)
theorem Bl.hasN_succ (K : Bl) (key : List UInt8) (i : Nat) : K.hasN key (i + 1) = (K.hasN key i && K.b (K.plc key i)) := by
  unfold Bl.hasN
  rw [List.range_succ, List.all_append]; simp
theorem Bl.hasN_all (K : Bl) (key : List UInt8) : K.hasN key K.h = K.has key := by
  unfold Bl.hasN Bl.has Bl.pls
  rw [List.all_map]; rfl
theorem setAll_append (f : Nat → Bool) : ∀ (A : List Nat) (B : List Nat), setAll f (A ++ B) = setAll (setAll f A) B
  | [], B => rfl
  | a :: A, B => setAll_append (setB f a) A B
def Bl.addN (K : Bl) (key : List UInt8) (i : Nat) : Bl := ⟨K.n, K.h, K.seed, setAll K.b ((List.range i).map (K.plc key))⟩
theorem Bl.addN_succ (K : Bl) (key : List UInt8) (i : Nat) : (K.addN key (i + 1)).b = setB (K.addN key i).b (K.plc key i) := by
  unfold Bl.addN
  rw [List.range_succ, List.map_append, setAll_append]; rfl
theorem Bl.addN_all (K : Bl) (key : List UInt8) : K.addN key K.h = K.add key := rfl
theorem Bl.addN_zero (K : Bl) (key : List UInt8) : K.addN key 0 = K := rfl
theorem Bl.Ok.addN {K : Bl} (h : K.Ok) (key : List UInt8) (i : Nat) : (K.addN key i).Ok := ⟨h.pow, h.hash, h.seed⟩
theorem Bl.Ok.add {K : Bl} (h : K.Ok) (key : List UInt8) : (K.add key).Ok := ⟨h.pow, h.hash, h.seed⟩
theorem below_put {w W : World} {N : Nat} (h : Below N w W) {T i : Nat} (hT : N ≤ T) (u : Value) : Below N w (W.setCell ⟨T, i, none⟩ u) :=
  ⟨h.os, h.tape, h.output, by rw [size_set]; exact h.size, fun j hj => (Below.heap_setCell _ _ u j (by simp; omega)).trans (h.block j hj)⟩
theorem own_block {w : World} {B n k : Nat} {e : TypeId} {v : Value} {xs : List Value} (h : w.ownsRow B e k v n xs) : ∀ i, v.ownBlock = some i → B ≤ i := fun i hi => by
  obtain ⟨_, ⟨rfl, _⟩ | ⟨g, c', cur, rfl, hb, _⟩⟩ := h
  · cases hi
  · simp [Value.ownBlock] at hi; omega
section
variable {w W : World} {p g q : Nat} {K : Bl}
theorem IsBl.far (s : IsBl W p g q K) {T i : Nat} (h1 : p ≠ T) (h2 : g ≠ T) (u : Value) : IsBl (W.setCell ⟨T, i, none⟩ u) p g q K := ⟨heap_other s.obj h1 u, s.row.other h2 u⟩
theorem IsBl.drew (s : IsBl W p g q K) : IsBl W.drew p g q K := ⟨s.obj, s.row⟩
theorem IsBl.put (s : IsBl W p g q K) (i : Nat) {M : Bl} (hM : M = ⟨K.n, K.h, K.seed, setB K.b i⟩) : IsBl (W.setCell ⟨g, i / 64, none⟩ (.int .u64 ((pack (setB K.b i) (i / 64) : Nat) : Int))) p g q M := by
  subst hM
  exact ⟨heap_other s.obj s.ne _, s.row.set (i / 64) _ rfl (fun j hj => by show ((pack (setB K.b i) j : Nat) : Int) = ((pack K.b j : Nat) : Int); rw [pack_other _ _ _ hj])⟩
/-- What Has keeps at each round. -/
structure HasI (w : World) (N T B p g q : Nat) (K : Bl) (key : List UInt8) (i : Nat) (W : World) : Prop where
  bel : Below N w W
  t : W.heap[T]? = some (.cells #[.bool (K.hasN key i)] 4 (0, 0))
  b : W.heap[B]? = some (.cells #[.pointer (some ⟨p, 0, none⟩)] 29 (0, 0))
  bl : IsBl W p g q K
theorem HasI.alloc {N T B i : Nat} {key : List UInt8} (z : HasI w N T B p g q K key i W) (hN : N ≤ W.heap.size) (o : Obj) : HasI w N T B p g q K key i (W.alloc o) :=
  ⟨z.bel.alloc hN _, heap_alloc z.t _, heap_alloc z.b _, z.bl.alloc _⟩
theorem has_is (s : IsBl w p g q K) (hK : K.Ok) (key : ByteArray) (hs : key.size ≤ maxLen) :
    Calls Try.prog 16 #[.pointer (some ⟨p, 0, none⟩), .string key] w fun e w' => e = .returned (.bool (K.has key.data.toList)) ∧ Below w.heap.size w w' := by
  have hp := s.lt.1
  have hg := s.lt.2
  have s1 : IsBl (w.alloc (.cells #[.pointer (some ⟨p, 0, none⟩)] 29)) p g q K := s.alloc _
  have hB : (w.alloc (.cells #[.pointer (some ⟨p, 0, none⟩)] 29)).heap[w.heap.size]? = some (.cells #[.pointer (some ⟨p, 0, none⟩)] 29 (0, 0)) := heap_new rfl
  have b1 : Below w.heap.size w (w.alloc (.cells #[.pointer (some ⟨p, 0, none⟩)] 29)) := (Below.refl _ _).alloc (Nat.le_refl _) _
  go_enter Try.func16, Try.ntmps16
  go_upto_region 3 with (first | (go_at_call 35; refine (zero_is s1 hK).mono ?_; rintro e w1 ⟨rfl, rfl⟩))
  go_upto_region 4 with fail
  have h0 : HasI w w.heap.size (w.heap.size + 1) w.heap.size p g q K key.data.toList 0 ((w.alloc (.cells #[.pointer (some ⟨p, 0, none⟩)] 29)).alloc (.cells #[.bool true] 4)) :=
    ⟨b1.alloc (by simp) _, heap_new (by simp), heap_alloc hB _, s1.alloc _⟩
  refine wp_seen _ h0 ?_
  clear h0 s1 hB b1
  rintro W z
  have cB : W.cell? ⟨w.heap.size, 0, none⟩ = some (.pointer (some ⟨p, 0, none⟩)) := cell_of z.b 0
  generalize hN : w.heap.size = N at *
  have HN := Lib.hid hN
  clear hN
  have he := eachHas (I := HasI w N (N + 1) N p g q K key.data.toList) (N + 1) N z.bl hK key hs (z.alloc (HN.out ▸ z.bel.size) _) (fun i W z => z.bl.cells.2.2.2.2) (fun i W hi z => by
    refine (hasv_is z.bl hK z.t z.b (K.plc_lt hK _ i)).mono ?_
    rintro e w' ⟨rfl, rfl⟩
    refine ⟨rfl, ⟨below_put z.bel (by omega) _, ?_, heap_other z.b (by omega) _, z.bl.far (by omega) (by omega) _⟩⟩
    rw [Bl.hasN_succ]
    exact heap_set z.t _)
  have HE := Lib.hid he
  clear he
  go_wp2_with (first | (go_at_call 36; refine HE.out.mono ?_; rintro e w2 ⟨rfl, z2⟩; have cT : w2.cell? ⟨N + 1, 0, none⟩ = some (.bool (K.hasN key.data.toList K.h)) := cell_of z2.t 0))
  go_ret
  refine ⟨?_, by rw [HN.out]; exact z2.bel⟩
  rw [K.hasN_all]
  rfl
/-- What Add keeps at each round. -/
structure AddI (w : World) (B p g q : Nat) (K : Bl) (key : List UInt8) (i : Nat) (W : World) : Prop where
  kp : Keeps [g] w W
  b : W.heap[B]? = some (.cells #[.pointer (some ⟨p, 0, none⟩)] 29 (0, 0))
  bl : IsBl W p g q (K.addN key i)
theorem AddI.alloc {B i : Nat} {key : List UInt8} (z : AddI w B p g q K key i W) (o : Obj) : AddI w B p g q K key i (W.alloc o) :=
  ⟨z.kp.alloc _, heap_alloc z.b _, z.bl.alloc _⟩
theorem add_is (s : IsBl w p g q K) (hK : K.Ok) (key : ByteArray) (hs : key.size ≤ maxLen) :
    Calls Try.prog 22 #[.pointer (some ⟨p, 0, none⟩), .string key] w fun e w' => e = .returned (.tuple #[.bool (!K.has key.data.toList), .int .i64 0]) ∧ Keeps [g] w w' ∧ IsBl w' p g q (K.add key.data.toList) := by
  have hp := s.lt.1
  have hg := s.lt.2
  have s1 : IsBl (w.alloc (.cells #[.pointer (some ⟨p, 0, none⟩)] 29)) p g q K := s.alloc _
  have hB : (w.alloc (.cells #[.pointer (some ⟨p, 0, none⟩)] 29)).heap[w.heap.size]? = some (.cells #[.pointer (some ⟨p, 0, none⟩)] 29 (0, 0)) := heap_new rfl
  have b1 : Below w.heap.size w (w.alloc (.cells #[.pointer (some ⟨p, 0, none⟩)] 29)) := (Below.refl _ _).alloc (Nat.le_refl _) _
  go_enter Try.func22, Try.ntmps22
  go_upto_region 3 with (first | (go_at_call 35; refine (zero_is s1 hK).mono ?_; rintro e w1 ⟨rfl, rfl⟩))
  have h0 : IsBl (w.alloc (.cells #[.pointer (some ⟨p, 0, none⟩)] 29)) p g q K ∧ Keeps [g] w (w.alloc (.cells #[.pointer (some ⟨p, 0, none⟩)] 29)) ∧ (w.alloc (.cells #[.pointer (some ⟨p, 0, none⟩)] 29)).heap[w.heap.size]? = some (.cells #[.pointer (some ⟨p, 0, none⟩)] 29 (0, 0)) := ⟨s1, Keeps.of_below b1, hB⟩
  refine wp_seen (fun W => IsBl W p g q K ∧ Keeps [g] w W ∧ W.heap[w.heap.size]? = some (.cells #[.pointer (some ⟨p, 0, none⟩)] 29 (0, 0))) h0 ?_
  clear h0 s1 hB b1
  rintro W ⟨s2, k2, hB⟩
  have cB : W.cell? ⟨w.heap.size, 0, none⟩ = some (.pointer (some ⟨p, 0, none⟩)) := cell_of hB 0
  generalize hN : w.heap.size = N at *
  have HN := Lib.hid hN
  clear hN
  go_upto_region 4 with (first | (go_at_call 16; refine (has_is s2 hK key hs).mono ?_; rintro e w2 ⟨rfl, b3⟩; have cB2 : w2.cell? ⟨N, 0, none⟩ = some (.pointer (some ⟨p, 0, none⟩)) := cell_of ((b3.block N (lt_of_heap hB)).trans hB) 0))
  have z : AddI w N p g q K key.data.toList 0 w2 := ⟨k2.trans (Keeps.of_below (S := []) b3) (by simp), (b3.block N (lt_of_heap hB)).trans hB, s2.below b3⟩
  have he := eachAdd (I := AddI w N p g q K key.data.toList) N z.bl (hK.addN _ 0) key hs (z.alloc _) (fun i W z => z.bl.cells.2.2.2.2) (fun i W hi z => by
    have hl : (K.addN key.data.toList i).n = K.n := rfl
    refine (addv_is z.bl (hK.addN _ i) z.b (K.plc_lt hK _ i)).mono ?_
    rintro e w' ⟨rfl, rfl⟩
    refine ⟨rfl, ⟨(z.kp.setCell (.inl (by simp)) _).drew, ?_, ?_⟩⟩
    · exact heap_drew (heap_other z.b (fun e => by have := HN.out; omega) _)
    · exact (z.bl.put (K.plc key.data.toList i) (by rw [← Bl.addN_succ]; rfl)).drew)
  have HE := Lib.hid he
  clear he
  go_wp2_with (first | (go_at_call 36; refine HE.out.mono ?_; rintro e w3 ⟨rfl, z3⟩))
  go_ret2
  exact ⟨rfl, z3.kp, z3.bl⟩
/-- What Places keeps at each round. -/
def plcsN (K : Bl) (key : List UInt8) (i : Nat) : List Int := (List.range i).map fun j => ((K.plc key j : Nat) : Int)
theorem plcsN_succ (K : Bl) (key : List UInt8) (i : Nat) : plcsN K key (i + 1) = plcsN K key i ++ [((K.plc key i : Nat) : Int)] := by
  unfold plcsN
  rw [List.range_succ, List.map_append]; rfl
theorem plcsN_length (K : Bl) (key : List UInt8) (i : Nat) : (plcsN K key i).length = i := by unfold plcsN; simp
structure PlcI (w : World) (N p g q : Nat) (K : Bl) (key : List UInt8) (i : Nat) (W : World) : Prop where
  bel : Below N w W
  own : ∃ A c, W.heap[N]? = some (.cells #[.slice A i c] 36 (0, 0)) ∧ W.ownsRow N 3 1 (.slice A i c) i ((plcsN K key i).map (Value.int .i64))
  bl : IsBl W p g q K
theorem PlcI.alloc {N i : Nat} {key : List UInt8} (z : PlcI w N p g q K key i W) (hN : N ≤ W.heap.size) (o : Obj) : PlcI w N p g q K key i (W.alloc o) := by
  obtain ⟨A, c, h1, h2⟩ := z.own
  exact ⟨z.bel.alloc hN _, ⟨A, c, heap_alloc h1 _, h2.alloc _⟩, z.bl.alloc _⟩
theorem own_other {w : World} {base : Nat} {e : TypeId} {size : Nat} {v : Value} {n : Nat} {xs : List Value} (h : w.ownsRow base e size v n xs) {p i : Nat} (hp : v.ownBlock ≠ some p) (u : Value) : (w.setCell ⟨p, i, none⟩ u).ownsRow base e size v n xs :=
  ⟨h.1, h.2.imp id fun ⟨g, c, cur, q1, q2, hh, q⟩ => ⟨g, c, cur, q1, q2, heap_other hh (fun e => hp (by rw [q1, e]; simp [Value.ownBlock])) u, q⟩⟩
theorem places_is (s : IsBl w p g q K) (hK : K.Ok) (key : ByteArray) (hs : key.size ≤ maxLen) :
    Calls Try.prog 27 #[.pointer (some ⟨p, 0, none⟩), .string key] w fun e w' => ∃ A c, e = .returned (.tuple #[.slice A K.h c, .int .i64 0]) ∧ w'.ownsRow w.heap.size 3 1 (.slice A K.h c) K.h ((plcsN K key.data.toList K.h).map (Value.int .i64)) ∧ Below w.heap.size w w' := by
  have hp := s.lt.1
  have hg := s.lt.2
  have hh := hK.hash.2
  go_enter Try.func27, Try.ntmps27
  go_upto_region 3 with (first | (go_at_call 35; refine (zero_is s hK).mono ?_; rintro e w1 ⟨rfl, rfl⟩))
  go_upto_region 4 with fail
  have h0 : PlcI w w.heap.size p g q K key.data.toList 0 (w.alloc (.cells #[.slice none 0 0] 36)) :=
    ⟨(Below.refl _ _).alloc (Nat.le_refl _) _, ⟨none, 0, heap_new rfl, World.ownsRow_nil _ _ _ _⟩, s.alloc _⟩
  refine wp_seen _ h0 ?_
  clear h0
  rintro W z
  generalize hN : w.heap.size = N at *
  have HN := Lib.hid hN
  clear hN
  have he := eachPlaces (I := PlcI w N p g q K key.data.toList) N z.bl hK key hs (z.alloc (HN.out ▸ z.bel.size) _) (fun i W z => z.bl.cells.2.2.2.2) (fun i W hi z => by
    obtain ⟨A, c, h1, h2⟩ := z.own
    refine (placev_is h2 h1 (by omega) (HN.out ▸ z.bel.size)).mono ?_
    rintro e w' ⟨A', c', w1, rfl, rfl, o1, g1⟩
    have hb : Below N w w1 := ⟨g1.os.trans z.bel.os, g1.tape.trans z.bel.tape, g1.output.trans z.bel.output, Nat.le_trans z.bel.size g1.size, fun k hk => (g1.block k (by have := z.bel.size; have := HN.out; omega) (fun e => by have := own_block h2 k e.symm; omega)).trans (z.bel.block k hk)⟩
    have h3 : w1.heap[N]? = some (.cells #[.slice A i c] 36 (0, 0)) := (g1.block N (lt_of_heap h1) (fun e => own_ne h2 h1 (by decide) e.symm)).trans h1
    refine ⟨rfl, ⟨below_put hb (Nat.le_refl _) _, ⟨A', c', heap_set h3 _, ?_⟩, ?_⟩⟩
    · rw [plcsN_succ]
      exact own_other o1 (own_ne o1 h3 (by decide)) _
    · have hlt := z.bl.lt
      have b2 : IsBl w1 p g q K := ⟨(g1.block p hlt.1 (fun e => by have := own_block h2 p e.symm; omega)).trans z.bl.obj, by
        obtain ⟨cur, hh, zz⟩ := z.bl.row
        exact ⟨cur, (g1.block g hlt.2 (fun e => by have := own_block h2 g e.symm; omega)).trans hh, zz⟩⟩
      exact b2.far (by omega) (by omega) _)
  have HE := Lib.hid he
  clear he
  go_upto_region 5 with (first | (go_at_call 36; refine HE.out.mono ?_; rintro e w2 ⟨rfl, z2⟩))
  obtain ⟨A, c, h1, h2⟩ := z2.own
  have cN : w2.cell? ⟨N, 0, none⟩ = some (.slice A K.h c) := cell_of h1 0
  go_wp2_with fail
  go_ret2
  exact ⟨A, c, rfl, by rw [HN.out]; exact h2, by rw [HN.out]; exact z2.bel⟩
end
end Go.Proofs.Ytihgidkkdjmlkaa
