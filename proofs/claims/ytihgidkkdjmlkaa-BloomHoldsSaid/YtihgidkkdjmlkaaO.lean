/-
  The contracts of the law's adds, places and equal.
-/
import Derived.Test.YtihgidkkdjmlkaaN
namespace Go.Proofs.Ytihgidkkdjmlkaa
open Go.ChangeShapes Go.WideShapes Go.ChangeAt Go.RowKit
set_option linter.unusedVariables false

section
variable {w W : World} {p g q : Nat} {K : Bl}
theorem adds_is (s : IsBl w p g q K) (hK : K.Ok) (key : ByteArray) (hs : key.size ≤ maxLen) (b : Bool) (hb : (!K.has key.data.toList) = b) :
    Calls Try.prog 15 #[.pointer (some ⟨p, 0, none⟩), .string key, .bool b] w fun e w' => e = .returned (.bool true) ∧ Keeps [g] w w' ∧ IsBl w' p g q (K.add key.data.toList) := by
  have HB := Lib.hid hb
  clear hb
  go_enter Try.func15, Try.ntmps15
  go_wp2_with (first | (go_at_call 22; refine (add_is s hK key hs).mono ?_; rintro e w1 ⟨rfl, k1, s1⟩; rw [HB.out]))
  all_goals go_ret
  all_goals exact ⟨by first | rfl | (simp), k1, s1⟩
theorem lplaces_is {B : Option Addr} {c : Nat} (s : IsBl w p g q K) (hK : K.Ok) (key : ByteArray) (hs : key.size ≤ maxLen) (hB : IsInts w B (plcsN K key.data.toList K.h)) :
    Calls Try.prog 13 #[.pointer (some ⟨p, 0, none⟩), .string key, .slice B K.h c] w fun e w' => e = .returned (.bool true) ∧ Below w.heap.size w w' := by
  have h1 := hK.hash.1
  have h2 := hK.hash.2
  go_enter Try.func13, Try.ntmps13
  go_wp2_with (first | (go_at_call 27; refine (places_is s hK key hs).mono ?_; rintro e w1 ⟨A, d, rfl, o1, b1⟩; have i1 := IsInts.of_own h1 o1; have i2 := hB.below b1) | (go_at_call 33; refine (ints_is i1 i2 (plcsN_length _ _ _) (Nat.le_trans h2 (by decide))).mono ?_; rintro e w2 ⟨rfl, b2⟩))
  all_goals go_ret
  all_goals exact ⟨by first | rfl | (simp), b1.trans (b2.mono b1.size)⟩
/-- What the comparison sees. -/
structure Hold (w : World) (N p g q r c : Nat) (K : Bl) (W : World) : Prop where
  bel : Below N w W
  at0 : w.heap.size = N
  bl : IsBl W p g q K
  rf : Bools W r K.n c K.b
  bx : W.heap[N]? = some (.cells (refC K r c) 25 (0, 0))
section
variable {N r c : Nat} {V : World}
theorem Hold.step (h : Hold w N p g q r c K W) (k : Below W.heap.size W V) : Hold w N p g q r c K V :=
  ⟨h.bel.trans (k.mono (h.at0 ▸ h.bel.size)), h.at0, h.bl.below k, h.rf.below k, (k.block _ (lt_of_heap h.bx)).trans h.bx⟩
theorem Hold.drew (h : Hold w N p g q r c K W) : Hold w N p g q r c K W.drew := h.step (Below.refl _ _).drew
theorem Hold.cs (h : Hold w N p g q r c K W) : Hold w N p g q r c K W ∧ W.cell? ⟨N, 0, none⟩ = some (.int .i64 (K.h : Nat)) ∧ W.cell? ⟨N, 1, none⟩ = some (.int .u64 K.seed) ∧ W.cell? ⟨N, 2, none⟩ = some (.slice (some ⟨r, 0, none⟩) K.n c) :=
  ⟨h, cell_of h.bx 0, cell_of h.bx 1, cell_of h.bx 2⟩
theorem Hold.done (h : Hold w N p g q r c K W) : Below w.heap.size w W := by rw [h.at0]; exact h.bel
theorem e_words (z : Hold w N p g q r c K W) (hK : K.Ok) : Calls Try.prog 24 #[.pointer (some ⟨p, 0, none⟩)] W fun e w' => ∃ d, e = .returned (.slice (some ⟨d, 0, none⟩) (K.n / 64) (K.n / 64)) ∧ Hold w N p g q r c K w' ∧ Nums w' .u64 22 d (K.n / 64) (K.n / 64) (wordsF K.b) :=
  (words_is z.bl hK).mono fun e w' ⟨d, q1, q2, q3, q4⟩ => ⟨d, q1, z.step q2, q4⟩
theorem e_rwords {d : Nat} (z : Hold w N p g q r c K W) (hK : K.Ok) (n : Nums W .u64 22 d (K.n / 64) (K.n / 64) (wordsF K.b)) : Calls Try.prog 30 #[.agg #[.int .i64 (K.h : Nat), .int .u64 K.seed, .slice (some ⟨r, 0, none⟩) K.n c]] W fun e w' => ∃ d2, e = .returned (.slice (some ⟨d2, 0, none⟩) (K.n / 64) (K.n / 64)) ∧ Hold w N p g q r c K w' ∧ Nums w' .u64 22 d (K.n / 64) (K.n / 64) (wordsF K.b) ∧ Nums w' .u64 22 d2 (K.n / 64) (K.n / 64) (wordsF K.b) :=
  (rwords_is (r := r) (c := c) z.rf hK).mono fun e w' ⟨d2, q1, q2, q3, q4⟩ => ⟨d2, q1, z.step q3, n.keep (Keeps.of_below (S := []) q3) (by simp), q2⟩
theorem e_same {d d2 : Nat} (z : Hold w N p g q r c K W) (hK : K.Ok) (n : Nums W .u64 22 d (K.n / 64) (K.n / 64) (wordsF K.b)) (m : Nums W .u64 22 d2 (K.n / 64) (K.n / 64) (wordsF K.b)) : Calls Try.prog 23 #[.slice (some ⟨d, 0, none⟩) (K.n / 64) (K.n / 64), .slice (some ⟨d2, 0, none⟩) (K.n / 64) (K.n / 64)] W fun e w' => e = .returned (.bool true) ∧ Hold w N p g q r c K w' :=
  (same_is n m (fun _ _ => rfl) (by have := hK.n64; omega)).mono fun e w' ⟨q1, q2⟩ => ⟨q1, z.step q2⟩
theorem e_ones (z : Hold w N p g q r c K W) (hK : K.Ok) : Calls Try.prog 17 #[.pointer (some ⟨p, 0, none⟩)] W fun e w' => e = .returned (.int .i64 (K.ones : Nat)) ∧ Hold w N p g q r c K w' :=
  (ones_is z.bl hK).mono fun e w' ⟨q1, q2⟩ => ⟨q1, q2 ▸ z⟩
theorem e_rones (z : Hold w N p g q r c K W) (hK : K.Ok) : Calls Try.prog 31 #[.agg #[.int .i64 (K.h : Nat), .int .u64 K.seed, .slice (some ⟨r, 0, none⟩) K.n c]] W fun e w' => e = .returned (.int .i64 (K.ones : Nat)) ∧ Hold w N p g q r c K w' :=
  (rones_is (r := r) (c := c) z.rf hK).mono fun e w' ⟨q1, q2⟩ => ⟨q1, z.step q2⟩
theorem e_has (z : Hold w N p g q r c K W) (hK : K.Ok) (key : ByteArray) (hs : key.size ≤ maxLen) : Calls Try.prog 16 #[.pointer (some ⟨p, 0, none⟩), .string key] W fun e w' => e = .returned (.bool (K.has key.data.toList)) ∧ Hold w N p g q r c K w' :=
  (has_is z.bl hK key hs).mono fun e w' ⟨q1, q2⟩ => ⟨q1, z.step q2⟩
theorem e_rhas (z : Hold w N p g q r c K W) (hK : K.Ok) (key : ByteArray) (hs : key.size ≤ maxLen) : Calls Try.prog 32 #[.agg #[.int .i64 (K.h : Nat), .int .u64 K.seed, .slice (some ⟨r, 0, none⟩) K.n c], .string key] W fun e w' => e = .returned (.bool (K.has key.data.toList)) ∧ Hold w N p g q r c K w' :=
  (rhas_is (r := r) (c := c) z.rf hK key hs).mono fun e w' ⟨q1, q2⟩ => ⟨q1, z.step q2⟩
theorem e_rplaces (z : Hold w N p g q r c K W) (hK : K.Ok) (key : ByteArray) (hs : key.size ≤ maxLen) : Calls Try.prog 14 #[.agg #[.int .i64 (K.h : Nat), .int .u64 K.seed, .slice (some ⟨r, 0, none⟩) K.n c], .string key] W fun e w' => ∃ A d, e = .returned (.slice A K.h d) ∧ Hold w N p g q r c K w' ∧ IsInts w' A (plcsN K key.data.toList K.h) :=
  (rplaces_is (r := r) (c := c) hK key hs).mono fun e w' ⟨A, d, q1, q2, q3⟩ => ⟨A, d, q1, z.step q3, IsInts.of_own hK.hash.1 q2⟩
theorem e_places {A : Option Addr} {d : Nat} (z : Hold w N p g q r c K W) (hK : K.Ok) (key : ByteArray) (hs : key.size ≤ maxLen) (i : IsInts W A (plcsN K key.data.toList K.h)) : Calls Try.prog 13 #[.pointer (some ⟨p, 0, none⟩), .string key, .slice A K.h d] W fun e w' => e = .returned (.bool true) ∧ Hold w N p g q r c K w' :=
  (lplaces_is z.bl hK key hs i).mono fun e w' ⟨q1, q2⟩ => ⟨q1, z.step q2⟩
end
set_option maxRecDepth 100000 in
set_option maxHeartbeats 8000000 in
theorem equal_is {r c : Nat} (s : IsBl w p g q K) (t : Bools w r K.n c K.b) (hK : K.Ok) (key : ByteArray) (hs : key.size ≤ maxLen) :
    Calls Try.prog 12 #[.pointer (some ⟨p, 0, none⟩), refV K r c, .string key] w fun e w' => e = .returned (.bool true) ∧ Below w.heap.size w w' := by
  have b0 : Below w.heap.size w (w.alloc (.cells (refC K r c) 25)) := (Below.refl _ _).alloc (Nat.le_refl _) _
  have z0 : Hold w w.heap.size p g q r c K (w.alloc (.cells (refC K r c) 25)) := ⟨b0, rfl, s.below b0, t.below b0, heap_new rfl⟩
  clear b0 s t
  unfold refV
  go_enter Try.func12, Try.ntmps12
  go_upto_region 1 with fail
  refine wp_seen _ z0 ?_
  clear z0
  rintro W v
  generalize w.heap.size = N at *
  obtain ⟨v, m0, m1, m2⟩ := v.cs
  go_region_held3 (fun W => Hold w N p g q r c K W ∧ W.cell? ⟨N, 0, none⟩ = some (.int .i64 (K.h : Nat)) ∧ W.cell? ⟨N, 1, none⟩ = some (.int .u64 K.seed) ∧ W.cell? ⟨N, 2, none⟩ = some (.slice (some ⟨r, 0, none⟩) K.n c)) (first | assumption | exact Hold.cs (by assumption) | exact v.drew.cs) (first | (go_at_call 24; refine (e_words (by first | assumption | exact v.drew) hK).mono ?_; rintro e w1 ⟨d, rfl, z1, n1⟩) | (go_at_call 30; refine (e_rwords (by assumption) hK n1).mono ?_; rintro e w2 ⟨d2, rfl, z2, n2, n3⟩) | (go_at_call 23; refine (e_same (by assumption) hK n2 n3).mono ?_; rintro e w3 ⟨rfl, z3⟩; clear n1 n2 n3) | (go_at_call 17; refine (e_ones (by assumption) hK).mono ?_; rintro e w4 ⟨rfl, z4⟩) | (go_at_call 31; refine (e_rones (by assumption) hK).mono ?_; rintro e w5 ⟨rfl, z5⟩) | (go_at_call 16; refine (e_has (by assumption) hK key hs).mono ?_; rintro e w6 ⟨rfl, z6⟩) | (go_at_call 32; refine (e_rhas (by assumption) hK key hs).mono ?_; rintro e w7 ⟨rfl, z7⟩) | (go_at_call 14; refine (e_rplaces (by assumption) hK key hs).mono ?_; rintro e w8 ⟨A, d3, rfl, z8, i8⟩) | (go_at_call 13; refine (e_places (by assumption) hK key hs i8).mono ?_; rintro e w9 ⟨rfl, z9⟩))
  all_goals go_wp2_with fail
  all_goals go_ret
  all_goals exact ⟨rfl, Hold.done (by assumption)⟩
end
end Go.Proofs.Ytihgidkkdjmlkaa
