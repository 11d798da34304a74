/-
  The walk of BloomNone.
-/
import Derived.Test.YtihgidkkdjmlkaaS
namespace Go.Proofs.Ytihgidkkdjmlkaa
open Go.ChangeShapes Go.WideShapes Go.ChangeAt Go.RowKit
set_option linter.unusedVariables false

/-- A nil or a zero filter. -/
def IsZ (W : World) (v : Option Addr) : Prop := v = none ∨ ∃ Z, v = some ⟨Z, 0, none⟩ ∧ W.heap[Z]? = some (.cells #[.int .i64 0, .int .u64 0, .int .u64 0, .bool false, .slice none 0 0] 63 (0, 0))
section
variable {w W V : World} {v : Option Addr}
theorem IsZ.below (h : IsZ W v) (k : Below W.heap.size W V) : IsZ V v := h.imp id fun ⟨Z, e, x⟩ => ⟨Z, e, (k.block _ (lt_of_heap x)).trans x⟩
theorem IsZ.alloc (h : IsZ W v) (o : Obj) : IsZ (W.alloc o) v := h.below ((Below.refl _ _).alloc (Nat.le_refl _) _)
theorem z_zero (h : IsZ w v) : Calls Try.prog 35 #[.pointer v] w fun e w' => e = .returned (.bool true) ∧ w = w' := by
  rcases h with rfl | ⟨Z, rfl, x⟩
  · exact zero_nil w
  · have c0 : w.cell? ⟨Z, 0, none⟩ = some (.int .i64 0) := cell_of x 0
    go_enter Try.func35, Try.ntmps35
    go_wp2
    go_ret
    exact ⟨rfl, rfl⟩
theorem z_add (h : IsZ w v) (key : ByteArray) : Calls Try.prog 22 #[.pointer v, .string key] w fun e w' => e = .returned (.tuple #[.bool false, .int .i64 1]) ∧ Below w.heap.size w w' := by
  have h2 := h.alloc (.cells #[.pointer v] 29)
  go_enter Try.func22, Try.ntmps22
  go_wp2_with (first | (go_at_call 35; refine (z_zero h2).mono ?_; rintro e w1 ⟨rfl, rfl⟩))
  go_ret2
  exact ⟨rfl, (Below.refl _ _).alloc (Nat.le_refl _) _⟩
theorem z_has (h : IsZ w v) (key : ByteArray) : Calls Try.prog 16 #[.pointer v, .string key] w fun e w' => e = .returned (.bool false) ∧ Below w.heap.size w w' := by
  have h2 := h.alloc (.cells #[.pointer v] 29)
  go_enter Try.func16, Try.ntmps16
  go_wp2_with (first | (go_at_call 35; refine (z_zero h2).mono ?_; rintro e w1 ⟨rfl, rfl⟩))
  go_ret
  exact ⟨rfl, (Below.refl _ _).alloc (Nat.le_refl _) _⟩
theorem z_places (h : IsZ w v) (key : ByteArray) : Calls Try.prog 27 #[.pointer v, .string key] w fun e w' => e = .returned (.tuple #[.slice none 0 0, .int .i64 1]) ∧ Below w.heap.size w w' := by
  go_enter Try.func27, Try.ntmps27
  go_wp2_with (first | (go_at_call 35; refine (z_zero h).mono ?_; rintro e w1 ⟨rfl, rfl⟩))
  go_ret2
  exact ⟨rfl, Below.refl _ _⟩
theorem z_join1 (h : IsZ w v) (u : Option Addr) : Calls Try.prog 20 #[.pointer v, .pointer u] w fun e w' => e = .returned (.int .i64 1) ∧ Below w.heap.size w w' := by
  go_enter Try.func20, Try.ntmps20
  go_wp2_with (first | (go_at_call 35; refine (z_zero h).mono ?_; rintro e w1 ⟨rfl, rfl⟩))
  go_ret
  exact ⟨rfl, Below.refl _ _⟩
theorem z_join2 {p g q : Nat} {K : Bl} (s : IsBl w p g q K) (hK : K.Ok) (h : IsZ w v) : Calls Try.prog 20 #[.pointer (some ⟨p, 0, none⟩), .pointer v] w fun e w' => e = .returned (.int .i64 1) ∧ Below w.heap.size w w' := by
  go_enter Try.func20, Try.ntmps20
  go_wp2_with fail
  refine (zero_is s hK).mono ?_
  rintro e w1 ⟨rfl, rfl⟩
  go_wp2_with fail
  refine (z_zero h).mono ?_
  rintro e w1 ⟨rfl, rfl⟩
  go_wp2_with fail
  go_ret
  exact ⟨rfl, Below.refl _ _⟩
theorem z_clear (h : IsZ w v) : Calls Try.prog 25 #[.pointer v] w fun e w' => e = .returned (.int .i64 1) ∧ Below w.heap.size w w' := by
  go_enter Try.func25, Try.ntmps25
  go_wp2_with (first | (go_at_call 35; refine (z_zero h).mono ?_; rintro e w1 ⟨rfl, rfl⟩))
  go_ret
  exact ⟨rfl, Below.refl _ _⟩
theorem z_ones (h : IsZ w v) : Calls Try.prog 17 #[.pointer v] w fun e w' => e = .returned (.int .i64 0) ∧ Below w.heap.size w w' := by
  go_enter Try.func17, Try.ntmps17
  go_wp2_with (first | (go_at_call 35; refine (z_zero h).mono ?_; rintro e w1 ⟨rfl, rfl⟩))
  go_ret
  exact ⟨rfl, Below.refl _ _⟩
theorem z_words (h : IsZ w v) : Calls Try.prog 24 #[.pointer v] w fun e w' => e = .returned (.slice none 0 0) ∧ Below w.heap.size w w' := by
  go_enter Try.func24, Try.ntmps24
  go_wp2_with (first | (go_at_call 35; refine (z_zero h).mono ?_; rintro e w1 ⟨rfl, rfl⟩))
  go_ret
  exact ⟨rfl, Below.refl _ _⟩
theorem z_copy (h : IsZ w v) : Calls Try.prog 26 #[.pointer v] w fun e w' => e = .returned (.pointer none) ∧ Below w.heap.size w w' := by
  go_enter Try.func26, Try.ntmps26
  go_wp2_with (first | (go_at_call 35; refine (z_zero h).mono ?_; rintro e w1 ⟨rfl, rfl⟩))
  go_ret
  exact ⟨rfl, Below.refl _ _⟩
/-- What BloomNone sees. -/
structure Nn (w : World) (p g q Z B : Nat) (K : Bl) (W : World) : Prop where
  bel : Below w.heap.size w W
  bl : IsBl W p g q K
  zr : W.heap[Z]? = some (.cells #[.int .i64 0, .int .u64 0, .int .u64 0, .bool false, .slice none 0 0] 63 (0, 0))
  sl : W.heap[B]? = some (.cells #[.pointer none, .pointer (some ⟨Z, 0, none⟩)] 29 (0, 0))
variable {p g q Z B : Nat} {K : Bl}
theorem Nn.step (z : Nn w p g q Z B K W) (k : Below W.heap.size W V) : Nn w p g q Z B K V := ⟨z.bel.trans (k.mono z.bel.size), z.bl.below k, (k.block _ (lt_of_heap z.zr)).trans z.zr, (k.block _ (lt_of_heap z.sl)).trans z.sl⟩
theorem Nn.some_ (z : Nn w p g q Z B K W) : IsZ W (some ⟨Z, 0, none⟩) := .inr ⟨Z, rfl, z.zr⟩
theorem Nn.none_ (z : Nn w p g q Z B K W) : IsZ W none := .inl rfl
end
def E0 : Bl := Bl.new 64 1 0
theorem E0_ok : E0.Ok := Bl.Ok.new rfl (by omega) ⟨by omega, by omega⟩
theorem E0_ones : ((E0.ones : Nat) : Int) = 0 := by rw [ones_fresh rfl]; rfl
theorem new641 (w : World) : Calls Try.prog 11 #[.int .i64 64, .int .i64 1, .int .u64 0] w fun e w' => ∃ p g, e = .returned (.tuple #[.pointer (some ⟨p, 0, none⟩), .int .i64 0]) ∧ Below w.heap.size w w' ∧ w.heap.size ≤ p ∧ w.heap.size ≤ g ∧ IsBl w' p g 1 E0 :=
  _root_.Go.Proofs.Ytihgidkkdjmlkaa.new_ok 64 1 0 rfl (by omega) ⟨by omega, by omega⟩ w
set_option maxRecDepth 100000 in
set_option maxHeartbeats 8000000 in
theorem bloomNone_walk (key : ByteArray) (hs : key.size ≤ maxLen) (w : World) : Calls Try.prog 8 #[.string key] w fun e w' => e = .returned (.bool true) ∧ Below w.heap.size w w' := by
  by_cases h3 : key.size ≤ 300
  · have h3' : ¬ (300 : Int) < (key.size : Int) := by omega
    go_enter Try.func8, Try.ntmps8
    go_wp2_with fail
    refine (new641 _).mono ?_
    rintro e w1 ⟨p, g, rfl, b1, hp, hg, s1⟩
    go_wp2_with fail
    have z0 : Nn w p g 1 w1.heap.size (w1.heap.size + 1) E0 ((w1.alloc (.cells #[.int .i64 0, .int .u64 0, .int .u64 0, .bool false, .slice none 0 0] 63)).alloc (.cells #[.pointer none, .pointer (some ⟨w1.heap.size, 0, none⟩)] 29)) :=
      ⟨(b1.alloc b1.size _).alloc (Nat.le_trans b1.size (by simp)) _, (s1.alloc _).alloc _, heap_alloc (heap_new rfl) _, heap_new (by simp)⟩
    refine wp_seen _ z0 ?_
    clear z0 b1 s1 hp hg
    generalize w1.heap.size + 1 = B
    generalize w1.heap.size = Z
    rintro W z
    refine wp_loop_rounds 3 ?_
    rw [rounds_succ]
    have c0 : W.cell? ⟨B, 0, none⟩ = some (.pointer none) := cell_of z.sl 0
    go_wp2_with fail
    refine (z_add (v := none) z.none_ key).mono ?_
    rintro e v1 ⟨rfl, b1⟩
    have z1 := z.step b1
    clear z b1 c0
    go_wp2_with fail
    refine (z_places (v := none) z1.none_ key).mono ?_
    rintro e v2 ⟨rfl, b2⟩
    have z2 := z1.step b2
    clear z1 b2
    go_wp2_with fail
    refine (z_has (v := none) z2.none_ key).mono ?_
    rintro e v3 ⟨rfl, b3⟩
    have z3 := z2.step b3
    clear z2 b3
    go_wp2_with fail
    refine (z_join1 (v := none) z3.none_ (some ⟨p, 0, none⟩)).mono ?_
    rintro e v4 ⟨rfl, b4⟩
    have z4 := z3.step b4
    clear z3 b4
    go_wp2_with fail
    refine (z_join2 (v := none) z4.bl E0_ok z4.none_).mono ?_
    rintro e v5 ⟨rfl, b5⟩
    have z5 := z4.step b5
    clear z4 b5
    go_wp2_with fail
    refine (z_clear (v := none) z5.none_).mono ?_
    rintro e v6 ⟨rfl, b6⟩
    have z6 := z5.step b6
    clear z5 b6
    go_wp2_with fail
    refine (z_ones (v := none) z6.none_).mono ?_
    rintro e v7 ⟨rfl, b7⟩
    have z7 := z6.step b7
    clear z6 b7
    go_wp2_with fail
    refine (z_words (v := none) z7.none_).mono ?_
    rintro e v8 ⟨rfl, b8⟩
    have z8 := z7.step b8
    clear z7 b8
    go_wp2_with fail
    refine (z_copy (v := none) z8.none_).mono ?_
    rintro e v9 ⟨rfl, b9⟩
    have z9 := z8.step b9
    clear z8 b9
    go_wp2_with fail
    try rw [rounds_succ]
    have c1 : v9.cell? ⟨B, 1, none⟩ = some (.pointer (some ⟨Z, 0, none⟩)) := cell_of z9.sl 1
    go_wp2_with fail
    refine (z_add (v := some ⟨Z, 0, none⟩) z9.some_ key).mono ?_
    rintro e v10 ⟨rfl, b10⟩
    have z10 := z9.step b10
    clear z9 b10 c1
    go_wp2_with fail
    refine (z_places (v := some ⟨Z, 0, none⟩) z10.some_ key).mono ?_
    rintro e v11 ⟨rfl, b11⟩
    have z11 := z10.step b11
    clear z10 b11
    go_wp2_with fail
    refine (z_has (v := some ⟨Z, 0, none⟩) z11.some_ key).mono ?_
    rintro e v12 ⟨rfl, b12⟩
    have z12 := z11.step b12
    clear z11 b12
    go_wp2_with fail
    refine (z_join1 (v := some ⟨Z, 0, none⟩) z12.some_ (some ⟨p, 0, none⟩)).mono ?_
    rintro e v13 ⟨rfl, b13⟩
    have z13 := z12.step b13
    clear z12 b13
    go_wp2_with fail
    refine (z_join2 (v := some ⟨Z, 0, none⟩) z13.bl E0_ok z13.some_).mono ?_
    rintro e v14 ⟨rfl, b14⟩
    have z14 := z13.step b14
    clear z13 b14
    go_wp2_with fail
    refine (z_clear (v := some ⟨Z, 0, none⟩) z14.some_).mono ?_
    rintro e v15 ⟨rfl, b15⟩
    have z15 := z14.step b15
    clear z14 b15
    go_wp2_with fail
    refine (z_ones (v := some ⟨Z, 0, none⟩) z15.some_).mono ?_
    rintro e v16 ⟨rfl, b16⟩
    have z16 := z15.step b16
    clear z15 b16
    go_wp2_with fail
    refine (z_words (v := some ⟨Z, 0, none⟩) z16.some_).mono ?_
    rintro e v17 ⟨rfl, b17⟩
    have z17 := z16.step b17
    clear z16 b17
    go_wp2_with fail
    refine (z_copy (v := some ⟨Z, 0, none⟩) z17.some_).mono ?_
    rintro e v18 ⟨rfl, b18⟩
    have z18 := z17.step b18
    clear z17 b18
    go_wp2_with fail
    try rw [rounds_succ]
    go_wp2_with fail
    refine (ones_is z18.bl E0_ok).mono ?_
    rw [E0_ones]
    rintro e x1 ⟨rfl, rfl⟩
    go_wp2_with fail
    refine (known_any _).mono ?_
    rintro e x2 ⟨rfl, b⟩
    have zz := z18.step b
    go_wp2_with fail
    go_ret
    exact ⟨rfl, zz.bel⟩
  · have h3' : (300 : Int) < (key.size : Int) := by omega
    go_enter Try.func8, Try.ntmps8
    go_wp2_with (first | (go_at_call 10; refine (known_any _).mono ?_; rintro e w4 ⟨rfl, z4⟩))
    go_ret
    exact ⟨rfl, z4⟩
end Go.Proofs.Ytihgidkkdjmlkaa
