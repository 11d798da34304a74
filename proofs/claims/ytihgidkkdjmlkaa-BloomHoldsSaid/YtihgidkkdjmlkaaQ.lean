/-
  The walks of BloomNew and BloomPlaces.
-/
import Derived.Test.YtihgidkkdjmlkaaP
namespace Go.Proofs.Ytihgidkkdjmlkaa
open Go.ChangeShapes Go.WideShapes Go.ChangeAt Go.RowKit
set_option linter.unusedVariables false

section
variable {w W V : World} {p g q R r c : Nat} {K K' : Bl}
theorem Bl.fresh (hb : K.b = fun _ => false) : Bl.new K.n K.h K.seed = K := by cases K; simp at hb; subst hb; rfl
theorem k_rnew (hK : K.Ok) (hb : K.b = fun _ => false) (w : World) : Calls Try.prog 9 #[.int .i64 (K.n : Nat), .int .i64 (K.h : Nat), .int .u64 K.seed] w fun e w' => ∃ r, e = .returned (.tuple #[.agg #[.int .i64 (K.h : Nat), .int .u64 K.seed, .slice (some ⟨r, 0, none⟩) K.n K.n], .int .i64 0]) ∧ Bools w' r K.n K.n K.b ∧ Below w.heap.size w w' ∧ w.heap.size ≤ r :=
  (rnew_ok K.n K.h K.seed (size_pow.2 hK.pow) hK.hash w).mono fun e w' ⟨r, q1, q2, q3, q4⟩ => ⟨r, q1, by rw [hb]; exact q2, q3, q4⟩
theorem k_new (hK : K.Ok) (hb : K.b = fun _ => false) (w : World) : Calls Try.prog 11 #[.int .i64 (K.n : Nat), .int .i64 (K.h : Nat), .int .u64 K.seed] w fun e w' => ∃ p g, e = .returned (.tuple #[.pointer (some ⟨p, 0, none⟩), .int .i64 0]) ∧ Below w.heap.size w w' ∧ w.heap.size ≤ p ∧ w.heap.size ≤ g ∧ IsBl w' p g (K.n / 64) K :=
  (new_ok K.n K.h K.seed (size_pow.2 hK.pow) hK.hash hK.seed w).mono fun e w' ⟨p, g, q1, q2, q3, q4, q5⟩ => ⟨p, g, q1, q2, q3, q4, by rw [Bl.fresh hb] at q5; exact q5⟩
/-- The reference's filter in its box. -/
structure Box (w : World) (R r c : Nat) (K : Bl) (W : World) : Prop where
  bel : Below w.heap.size w W
  box : W.heap[R]? = some (.cells (refC K r c) 25 (0, 0))
  set : Bools W r K.n c K.b
  here : w.heap.size ≤ R
theorem Box.step (z : Box w R r c K W) (b : Below W.heap.size W V) : Box w R r c K V := ⟨z.bel.trans (b.mono z.bel.size), (b.block _ (lt_of_heap z.box)).trans z.box, z.set.below b, z.here⟩
theorem Box.alloc (z : Box w R r c K W) (o : Obj) : Box w R r c K (W.alloc o) := z.step ((Below.refl _ _).alloc (Nat.le_refl _) _)
theorem Box.start (b : Below w.heap.size w W) (s : Bools W r K.n c K.b) : Box w W.heap.size r c K (W.alloc (.cells #[.int .i64 (K.h : Nat), .int .u64 K.seed, .slice (some ⟨r, 0, none⟩) K.n c] 25)) :=
  ⟨b.alloc b.size _, heap_new rfl, s.alloc _, b.size⟩
theorem Box.cells (z : Box w R r c K W) : W.cell? ⟨R, 0, none⟩ = some (.int .i64 (K.h : Nat)) ∧ W.cell? ⟨R, 1, none⟩ = some (.int .u64 K.seed) ∧ W.cell? ⟨R, 2, none⟩ = some (.slice (some ⟨r, 0, none⟩) K.n c) := ⟨cell_of z.box 0, cell_of z.box 1, cell_of z.box 2⟩
theorem b_known (z : Box w R r c K W) : Calls Try.prog 10 #[] W fun e w' => e = .returned (.bool true) ∧ Box w R r c K w' :=
  (known_any W).mono fun e w' ⟨q1, q2⟩ => ⟨q1, z.step q2⟩
/-- And a filter. -/
structure BoxF (w : World) (R r c : Nat) (K : Bl) (p g q : Nat) (K' : Bl) (W : World) : Prop where
  bx : Box w R r c K W
  bl : IsBl W p g q K'
  lp : R < p
  lg : R < g
  rg : r ≠ g
theorem BoxF.step (z : BoxF w R r c K p g q K' W) (b : Below W.heap.size W V) : BoxF w R r c K p g q K' V := ⟨z.bx.step b, z.bl.below b, z.lp, z.lg, z.rg⟩
theorem BoxF.alloc (z : BoxF w R r c K p g q K' W) (o : Obj) : BoxF w R r c K p g q K' (W.alloc o) := z.step ((Below.refl _ _).alloc (Nat.le_refl _) _)
theorem BoxF.put {M : Bl} (z : BoxF w R r c K p g q K' W) (k : Keeps [g] W V) (s : IsBl V p g q M) : BoxF w R r c K p g q M V :=
  ⟨⟨z.bx.bel.trans (k.below (by have := z.bx.here; have := z.lg; simp; omega) z.bx.bel.size), k.at z.bx.box (by have := z.lg; simp; omega), z.bx.set.keep k (by simpa using z.rg), z.bx.here⟩, s, z.lp, z.lg, z.rg⟩
theorem BoxF.start (z : Box w R r c K W) (b : Below W.heap.size W V) (h1 : W.heap.size ≤ p) (h2 : W.heap.size ≤ g) (s : IsBl V p g q K') : BoxF w R r c K p g q K' V :=
  ⟨z.step b, s, by have := lt_of_heap z.box; omega, by have := lt_of_heap z.box; omega, by have := z.set.lt; omega⟩
theorem f_known (z : BoxF w R r c K p g q K' W) : Calls Try.prog 10 #[] W fun e w' => e = .returned (.bool true) ∧ BoxF w R r c K p g q K' w' :=
  (known_any W).mono fun e w' ⟨q1, q2⟩ => ⟨q1, z.step q2⟩
theorem f_equal (z : BoxF w R r c K p g q K W) (hK : K.Ok) (key : ByteArray) (hs : key.size ≤ maxLen) : Calls Try.prog 12 #[.pointer (some ⟨p, 0, none⟩), .agg #[.int .i64 (K.h : Nat), .int .u64 K.seed, .slice (some ⟨r, 0, none⟩) K.n c], .string key] W fun e w' => e = .returned (.bool true) ∧ BoxF w R r c K p g q K w' :=
  (equal_is (r := r) (c := c) z.bl z.bx.set hK key hs).mono fun e w' ⟨q1, q2⟩ => ⟨q1, z.step q2⟩
theorem f_adds (z : BoxF w R r c K p g q K' W) (hK : K'.Ok) (key : ByteArray) (hs : key.size ≤ maxLen) (b : Bool) (hb : (!K'.has key.data.toList) = b) : Calls Try.prog 15 #[.pointer (some ⟨p, 0, none⟩), .string key, .bool b] W fun e w' => e = .returned (.bool true) ∧ BoxF w R r c K p g q (K'.add key.data.toList) w' :=
  (adds_is z.bl hK key hs b hb).mono fun e w' ⟨q1, q2, q3⟩ => ⟨q1, z.put q2 q3⟩
theorem f_has (z : BoxF w R r c K p g q K' W) (hK : K'.Ok) (key : ByteArray) (hs : key.size ≤ maxLen) (b : Bool) (hb : K'.has key.data.toList = b) : Calls Try.prog 16 #[.pointer (some ⟨p, 0, none⟩), .string key] W fun e w' => e = .returned (.bool b) ∧ BoxF w R r c K p g q K' w' :=
  (has_is z.bl hK key hs).mono fun e w' ⟨q1, q2⟩ => ⟨by rw [q1, hb], z.step q2⟩
theorem f_ones (z : BoxF w R r c K p g q K' W) (hK : K'.Ok) : Calls Try.prog 17 #[.pointer (some ⟨p, 0, none⟩)] W fun e w' => e = .returned (.int .i64 (K'.ones : Nat)) ∧ BoxF w R r c K p g q K' w' :=
  (ones_is z.bl hK).mono fun e w' ⟨q1, q2⟩ => ⟨q1, q2 ▸ z⟩
theorem f_rplaces (z : BoxF w R r c K p g q K W) (hK : K.Ok) (key : ByteArray) (hs : key.size ≤ maxLen) : Calls Try.prog 14 #[.agg #[.int .i64 (K.h : Nat), .int .u64 K.seed, .slice (some ⟨r, 0, none⟩) K.n c], .string key] W fun e w' => ∃ A d, e = .returned (.slice A K.h d) ∧ BoxF w R r c K p g q K w' ∧ IsInts w' A (plcsN K key.data.toList K.h) :=
  (rplaces_is (r := r) (c := c) hK key hs).mono fun e w' ⟨A, d, q1, q2, q3⟩ => ⟨A, d, q1, z.step q3, IsInts.of_own hK.hash.1 q2⟩
theorem f_places {A : Option Addr} {d : Nat} (z : BoxF w R r c K p g q K W) (hK : K.Ok) (key : ByteArray) (hs : key.size ≤ maxLen) (i : IsInts W A (plcsN K key.data.toList K.h)) : Calls Try.prog 13 #[.pointer (some ⟨p, 0, none⟩), .string key, .slice A K.h d] W fun e w' => e = .returned (.bool true) ∧ BoxF w R r c K p g q K w' :=
  (lplaces_is z.bl hK key hs i).mono fun e w' ⟨q1, q2⟩ => ⟨q1, z.step q2⟩
end
/-- Numbers that are allowed. -/
def okN (n h : Int) : Prop := 0 ≤ n ∧ sizeB n.toNat = true ∧ 1 ≤ h ∧ h ≤ 8
theorem ok_get {n h seed : Int} (ho : okN n h) (hs : Word seed) : ∃ K : Bl, K.Ok ∧ K.b = (fun _ => false) ∧ n = (K.n : Nat) ∧ h = (K.h : Nat) ∧ seed = K.seed := by
  obtain ⟨h0, h1, h2, h3⟩ := ho
  exact ⟨Bl.new n.toNat h.toNat seed, Bl.Ok.new h1 (by omega) hs, rfl, by show n = ((n.toNat : Nat) : Int); omega, by show h = ((h.toNat : Nat) : Int); omega, rfl⟩
theorem ok_not {n h : Int} (ho : ¬ okN n h) : 0 ≤ n → sizeB n.toNat = true → h < 1 ∨ 8 < h := fun h0 h1 => by
  by_cases q : h < 1 ∨ 8 < h
  · exact q
  · exact absurd ⟨h0, h1, by omega, by omega⟩ ho
theorem word_of {x : Int} (h : (Lit.int .u64 x).wf = true) : Word x := by
  have := bounds_u64 h
  exact ⟨by omega, by omega⟩
theorem known_below (w0 W : World) (b : Below w0.heap.size w0 W) : Calls Try.prog 10 #[] W fun e w' => e = .returned (.bool true) ∧ Below w0.heap.size w0 w' :=
  (known_any W).mono fun e w' ⟨q1, q2⟩ => ⟨q1, b.trans (q2.mono b.size)⟩
set_option maxRecDepth 100000 in
set_option maxHeartbeats 8000000 in
theorem bloomNew_walk (n h seed : Int) (w1 : (Lit.int .i64 n).wf = true) (w2 : (Lit.int .i64 h).wf = true) (w3 : (Lit.int .u64 seed).wf = true) (w : World) :
    Calls Try.prog 3 #[.int .i64 n, .int .i64 h, .int .u64 seed] w fun e w' => e = .returned (.bool true) ∧ Below w.heap.size w w' := by
  have hsd := word_of w3
  clear w1 w2 w3
  by_cases ho : okN n h
  · obtain ⟨K, hK, hb, rfl, rfl, rfl⟩ := ok_get ho hsd
    have Hb := Lib.hid hb
    clear ho hb hsd
    by_cases h8 : K.n ≤ 8192
    · have h8' : ¬ (8192 : Int) < (K.n : Int) := by omega
      go_enter Try.func3, Try.ntmps3
      go_wp2_with fail
      refine (k_rnew hK Hb.out _).mono ?_
      rintro e w1 ⟨r, rfl, s1, b1, hr⟩
      go_upto_region 2 with fail
      refine wp_seen _ (Box.start b1 s1) ?_
      clear s1 b1 hr
      generalize w1.heap.size = R
      rintro W z
      go_upto_region 5 with (first | (go_at_call 11; refine (k_new hK Hb.out _).mono ?_; rintro e w2 ⟨p, g, rfl, b2, q1, q2, s2⟩))
      have zf := BoxF.start z b2 q1 q2 s2
      clear z b2 s2 q1 q2
      obtain ⟨m0, m1, m2⟩ := zf.bx.cells
      go_wp2_with (first | (go_at_call 12; refine (f_equal zf hK ⟨#[97]⟩ sa).mono ?_; rintro e w3 ⟨rfl, z3⟩) | (go_at_call 10; refine (f_known z3).mono ?_; rintro e w4 ⟨rfl, z4⟩))
      go_ret
      exact ⟨rfl, z4.bx.bel⟩
    · have h8' : (8192 : Int) < (K.n : Int) := by omega
      go_enter Try.func3, Try.ntmps3
      go_wp2_with fail
      refine (k_rnew hK Hb.out _).mono ?_
      rintro e w1 ⟨r, rfl, s1, b1, hr⟩
      go_upto_region 2 with fail
      refine wp_seen _ (Box.start b1 s1) ?_
      clear s1 b1 hr
      generalize w1.heap.size = R
      rintro W z
      go_wp2_with (first | (go_at_call 10; refine (b_known z).mono ?_; rintro e w4 ⟨rfl, z4⟩))
      go_ret
      exact ⟨rfl, z4.bel⟩
  · have hn := ok_not ho
    have Hn := Lib.hid hn
    clear ho hn
    go_enter Try.func3, Try.ntmps3
    go_wp2_with fail
    refine (rnew_no n h seed Hn.out _).mono ?_
    rintro e w1 ⟨rfl, b1⟩
    go_upto_region 2 with fail
    refine wp_seen (fun W => Below w.heap.size w W) (b1.alloc b1.size _) ?_
    clear b1
    rintro W b
    go_wp2_with (first | (go_at_call 11; refine (new_no n h seed Hn.out hsd _).mono ?_; rintro e w2 ⟨rfl, rfl⟩) | (go_at_call 10; refine (known_below w _ b).mono ?_; rintro e w4 ⟨rfl, z4⟩))
    go_ret
    exact ⟨rfl, z4⟩
end Go.Proofs.Ytihgidkkdjmlkaa
