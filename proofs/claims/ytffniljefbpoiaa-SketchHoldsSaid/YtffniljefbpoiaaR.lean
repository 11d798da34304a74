/-
  The contract of cubbyholelaw33.known and few.
-/
import Derived.Test.YtffniljefbpoiaaQ
namespace Go.Proofs.Ytffniljefbpoiaa
open Go.ChangeShapes Go.WideShapes Go.ChangeAt Go.RowKit
set_option linter.unusedVariables false

/-- Two sketches of one's own that share no block. -/
structure Pair (w : World) (p : Nat) (G Q : Nat → Nat) (q : Nat) (H P : Nat → Nat) (K L : Sk) (W : World) : Prop where
  bel : Below w.heap.size w W
  s : IsSk W p G Q K
  t : IsSk W q H P L
  ap : ∀ i ∈ blocks p G, i ∉ blocks q H
  os : ∀ i ∈ blocks p G, w.heap.size ≤ i
  ot : ∀ i ∈ blocks q H, w.heap.size ≤ i
section
variable {w W W' : World} {p : Nat} {G Q : Nat → Nat} {q : Nat} {H P : Nat → Nat} {K K' L L' : Sk}
theorem Pair.left (h : Pair w p G Q q H P K L W) (k : Keeps (blocks p G) W W') (s : IsSk W' p G Q K') : Pair w p G Q q H P K' L W' :=
  ⟨h.bel.trans (k.below h.os h.bel.size), s, h.t.keep k (fun i hi hj => h.ap i hj hi), h.ap, h.os, h.ot⟩
theorem Pair.right (h : Pair w p G Q q H P K L W) (k : Keeps (blocks q H) W W') (s : IsSk W' q H P L') : Pair w p G Q q H P K L' W' :=
  ⟨h.bel.trans (k.below h.ot h.bel.size), h.s.keep k h.ap, s, h.ap, h.os, h.ot⟩
theorem Pair.below (h : Pair w p G Q q H P K L W) (b : Below W.heap.size W W') : Pair w p G Q q H P K L W' :=
  ⟨h.bel.trans (b.mono h.bel.size), h.s.below b, h.t.below b, h.ap, h.os, h.ot⟩
theorem k_places (h : Pair w p G Q q H P K L W) (hK : K.Ok) (key : ByteArray) (hs : key.size ≤ maxLen) (x0 x1 x2 x3 : Int) (e0 : ((K.plc key.data.toList 0 : Nat) : Int) = x0) (e1 : ((K.plc key.data.toList 1 : Nat) : Int) = x1) (e2 : ((K.plc key.data.toList 2 : Nat) : Int) = x2) (e3 : ((K.plc key.data.toList 3 : Nat) : Int) = x3) :
    Calls Try.prog 22 #[.pointer (some ⟨p, 0, none⟩), .string key, .agg #[.int .i64 x0, .int .i64 x1, .int .i64 x2, .int .i64 x3]] W fun e w' => e = .returned (.bool true) ∧ Pair w p G Q q H P K L w' := by
  subst e0; subst e1; subst e2; subst e3
  refine (placesL_is h.s hK key hs).mono ?_
  rintro e w' ⟨rfl, b⟩; exact ⟨rfl, h.below b⟩
theorem k_adds (h : Pair w p G Q q H P K L W) (hK : K.Ok) (key : ByteArray) (hs : key.size ≤ maxLen) (ha : K.a + 1 < 16777217) (b : Bool) (hb : K.full = b) :
    Calls Try.prog 24 #[.pointer (some ⟨p, 0, none⟩), .string key, .bool b] W fun e w' => e = .returned (.bool true) ∧ Pair w p G Q q H P (K.add key.data.toList) L w' := by
  refine (adds_is h.s hK key hs ha b hb).mono ?_
  rintro e w' ⟨rfl, k, s⟩; exact ⟨rfl, h.left k s⟩
theorem k_addsR (h : Pair w p G Q q H P K L W) (hL : L.Ok) (key : ByteArray) (hs : key.size ≤ maxLen) (ha : L.a + 1 < 16777217) (b : Bool) (hb : L.full = b) :
    Calls Try.prog 24 #[.pointer (some ⟨q, 0, none⟩), .string key, .bool b] W fun e w' => e = .returned (.bool true) ∧ Pair w p G Q q H P K (L.add key.data.toList) w' := by
  refine (adds_is h.t hL key hs ha b hb).mono ?_
  rintro e w' ⟨rfl, k, s⟩; exact ⟨rfl, h.right k s⟩
theorem k_cnt (h : Pair w p G Q q H P K L W) (hK : K.Ok) (key : ByteArray) (hs : key.size ≤ maxLen) (x : Int) (e0 : ((K.cnt key.data.toList : Nat) : Int) = x) :
    Calls Try.prog 20 #[.pointer (some ⟨p, 0, none⟩), .string key] W fun e w' => e = .returned (.int .i64 x) ∧ Pair w p G Q q H P K L w' := by
  subst e0
  refine (count_is h.s hK key hs).mono ?_
  rintro e w' ⟨rfl, b⟩; exact ⟨rfl, h.below b⟩
theorem k_cntR (h : Pair w p G Q q H P K L W) (hL : L.Ok) (key : ByteArray) (hs : key.size ≤ maxLen) (x : Int) (e0 : ((L.cnt key.data.toList : Nat) : Int) = x) :
    Calls Try.prog 20 #[.pointer (some ⟨q, 0, none⟩), .string key] W fun e w' => e = .returned (.int .i64 x) ∧ Pair w p G Q q H P K L w' := by
  subst e0
  refine (count_is h.t hL key hs).mono ?_
  rintro e w' ⟨rfl, b⟩; exact ⟨rfl, h.below b⟩
theorem k_a (h : Pair w p G Q q H P K L W) (hK : K.Ok) (x : Int) (e0 : ((K.a : Nat) : Int) = x) :
    Calls Try.prog 21 #[.pointer (some ⟨p, 0, none⟩)] W fun e w' => e = .returned (.int .i64 x) ∧ Pair w p G Q q H P K L w' := by
  subst e0
  refine (additions_is h.s hK).mono ?_
  rintro e w' ⟨rfl, rfl⟩; exact ⟨rfl, h⟩
theorem k_aR (h : Pair w p G Q q H P K L W) (hL : L.Ok) (x : Int) (e0 : ((L.a : Nat) : Int) = x) :
    Calls Try.prog 21 #[.pointer (some ⟨q, 0, none⟩)] W fun e w' => e = .returned (.int .i64 x) ∧ Pair w p G Q q H P K L w' := by
  subst e0
  refine (additions_is h.t hL).mono ?_
  rintro e w' ⟨rfl, rfl⟩; exact ⟨rfl, h⟩
theorem k_row (h : Pair w p G Q q H P K L W) (hK : K.Ok) (r : Nat) (hr : r < 4) (R : Int) (eR : ((r : Nat) : Int) = R) (hn : K.n = 16) (x0 x1 : Int) (e0 : ((K.c r 0 : Nat) : Int) = x0) (e1 : ((K.c r 1 : Nat) : Int) = x1) :
    Calls Try.prog 17 #[.pointer (some ⟨p, 0, none⟩), .int .i64 R] W fun e w' => ∃ g, e = .returned (.tuple #[.slice (some ⟨g, 0, none⟩) 16 16, .int .i64 0]) ∧ Pair w p G Q q H P K L w' ∧ w'.cell? ⟨g, 0, none⟩ = some (.int .i64 x0) ∧ w'.cell? ⟨g, 1, none⟩ = some (.int .i64 x1) := by
  subst e0; subst e1; subst eR
  refine (row_is h.s hK hr).mono ?_
  rintro e w' ⟨g, rfl, b, _, n⟩
  rw [hn] at n
  exact ⟨g, by rw [hn], h.below b, n.cell (by omega), n.cell (by omega)⟩
theorem k_half (h : Pair w p G Q q H P K L W) (hK : K.Ok) :
    Calls Try.prog 14 #[.pointer (some ⟨p, 0, none⟩)] W fun e w' => e = .returned (.int .i64 0) ∧ Pair w p G Q q H P K.half L w' := by
  refine (halve_is h.s hK).mono ?_
  rintro e w' ⟨rfl, k, s⟩; exact ⟨rfl, h.left k s⟩
theorem k_rowno (h : Pair w p G Q q H P K L W) (hK : K.Ok) (r : Int) (hr : r < 0 ∨ 4 ≤ r) :
    Calls Try.prog 17 #[.pointer (some ⟨p, 0, none⟩), .int .i64 r] W fun e w' => e = .returned (.tuple #[.slice none 0 0, .int .i64 2]) ∧ Pair w p G Q q H P K L w' := by
  refine (row_no h.s hK hr).mono ?_
  rintro e w' ⟨rfl, rfl⟩; exact ⟨rfl, h⟩
theorem k_newno (h : Pair w p G Q q H P K L W) (n s : Int) (hn : 0 ≤ n → n ≤ 65536 → widthB n.toNat = true → s < 0 ∨ 16777216 < s) (hn1 : -9223372036854775808 ≤ n ∧ n ≤ 9223372036854775807) :
    Calls Try.prog 11 #[.int .i64 n, .int .u64 0, .int .i64 s] W fun e w' => e = .returned (.tuple #[.pointer none, .int .i64 2]) ∧ Pair w p G Q q H P K L w' := by
  refine (new_no n s 0 hn ⟨by omega, by omega⟩ W hn1).mono ?_
  rintro e w' ⟨rfl, rfl⟩; exact ⟨rfl, h⟩
end
theorem Sk.new_ok {n s : Nat} {seed : Int} (h1 : widthB n = true) (h2 : s ≤ 16777216) (h3 : Word seed) : (Sk.new n seed s).Ok := ⟨width_pow h1, h3, by show 0 < _; omega, by show s < _; omega, fun _ _ => by show 0 ≤ 15; omega⟩
theorem two_new (w : World) : Calls Try.prog 11 #[.int .i64 16, .int .u64 0, .int .i64 0] w fun e w' => ∃ p G Q, e = .returned (.tuple #[.pointer (some ⟨p, 0, none⟩), .int .i64 0]) ∧ Below w.heap.size w w' ∧ (∀ i ∈ blocks p G, w.heap.size ≤ i) ∧ IsSk w' p G Q (Sk.new 16 0 0) :=
  _root_.Go.Proofs.Ytffniljefbpoiaa.new_ok 16 0 0 rfl (by omega) ⟨by omega, by omega⟩ w
theorem two_new4 (w : World) : Calls Try.prog 11 #[.int .i64 16, .int .u64 0, .int .i64 4] w fun e w' => ∃ p G Q, e = .returned (.tuple #[.pointer (some ⟨p, 0, none⟩), .int .i64 0]) ∧ Below w.heap.size w w' ∧ (∀ i ∈ blocks p G, w.heap.size ≤ i) ∧ IsSk w' p G Q (Sk.new 16 0 4) :=
  _root_.Go.Proofs.Ytffniljefbpoiaa.new_ok 16 4 0 rfl (by omega) ⟨by omega, by omega⟩ w
theorem two_start {w w1 w2 : World} {p q : Nat} {G Q H P : Nat → Nat} {K L : Sk} (b1 : Below w.heap.size w w1) (o1 : ∀ i ∈ blocks p G, w.heap.size ≤ i) (s1 : IsSk w1 p G Q K) (b2 : Below w1.heap.size w1 w2) (o2 : ∀ i ∈ blocks q H, w1.heap.size ≤ i) (s2 : IsSk w2 q H P L) : Pair w p G Q q H P K L w2 :=
  ⟨b1.trans (b2.mono b1.size), s1.below b2, s2, fun i hi hj => by have := s1.lt i hi; have := o2 i hj; omega, o1, fun i hi => Nat.le_trans b1.size (o2 i hi)⟩
def S0 : Sk := Sk.new 16 0 0
def S1 : Sk := S0.add [97]
def S2 : Sk := S1.add [97]
def S3 : Sk := S2.add [97]
def S4 : Sk := S3.add []
def S5 : Sk := S4.add []
def S6 : Sk := S5.half
def T0 : Sk := Sk.new 16 0 4
def T1 : Sk := T0.add [97]
def T2 : Sk := T1.add [97]
def T3 : Sk := T2.add [97]
def T4 : Sk := T3.add [97]
theorem S0_ok : S0.Ok := Sk.new_ok rfl (by omega) ⟨by omega, by omega⟩
theorem T0_ok : T0.Ok := Sk.new_ok rfl (by omega) ⟨by omega, by omega⟩
theorem S0_full : S0.full = false := by decide +kernel
theorem S0_a : S0.a + 1 < 16777217 := by decide +kernel
theorem S1_ok : S1.Ok := S0_ok.add _ S0_a
theorem S1_full : S1.full = false := by decide +kernel
theorem S1_a : S1.a + 1 < 16777217 := by decide +kernel
theorem S2_ok : S2.Ok := S1_ok.add _ S1_a
theorem S2_full : S2.full = false := by decide +kernel
theorem S2_a : S2.a + 1 < 16777217 := by decide +kernel
theorem S3_ok : S3.Ok := S2_ok.add _ S2_a
theorem S3_full : S3.full = false := by decide +kernel
theorem S3_a : S3.a + 1 < 16777217 := by decide +kernel
theorem S4_ok : S4.Ok := S3_ok.add _ S3_a
theorem S4_full : S4.full = false := by decide +kernel
theorem S4_a : S4.a + 1 < 16777217 := by decide +kernel
theorem S5_ok : S5.Ok := S4_ok.add _ S4_a
theorem S6_ok : S6.Ok := S5_ok.half
theorem T0_full : T0.full = false := by decide +kernel
theorem T0_a : T0.a + 1 < 16777217 := by decide +kernel
theorem T1_ok : T1.Ok := T0_ok.add _ T0_a
theorem T1_full : T1.full = false := by decide +kernel
theorem T1_a : T1.a + 1 < 16777217 := by decide +kernel
theorem T2_ok : T2.Ok := T1_ok.add _ T1_a
theorem T2_full : T2.full = false := by decide +kernel
theorem T2_a : T2.a + 1 < 16777217 := by decide +kernel
theorem T3_ok : T3.Ok := T2_ok.add _ T2_a
theorem T3_full : T3.full = true := by decide +kernel
theorem T3_a : T3.a + 1 < 16777217 := by decide +kernel
theorem T4_ok : T4.Ok := T3_ok.add _ T3_a
theorem kn_pa0 : ((S0.plc [97] 0 : Nat) : Int) = 15 := by decide +kernel
theorem kn_pa1 : ((S0.plc [97] 1 : Nat) : Int) = 3 := by decide +kernel
theorem kn_pa2 : ((S0.plc [97] 2 : Nat) : Int) = 0 := by decide +kernel
theorem kn_pa3 : ((S0.plc [97] 3 : Nat) : Int) = 1 := by decide +kernel
theorem kn_pb0 : ((S0.plc [] 0 : Nat) : Int) = 0 := by decide +kernel
theorem kn_pb1 : ((S0.plc [] 1 : Nat) : Int) = 0 := by decide +kernel
theorem kn_pb2 : ((S0.plc [] 2 : Nat) : Int) = 0 := by decide +kernel
theorem kn_pb3 : ((S0.plc [] 3 : Nat) : Int) = 0 := by decide +kernel
theorem kn_ca : ((S5.cnt [97] : Nat) : Int) = 3 := by decide +kernel
theorem kn_cb : ((S5.cnt [] : Nat) : Int) = 2 := by decide +kernel
theorem kn_cc : ((S5.a : Nat) : Int) = 5 := by decide +kernel
theorem kn_r0 : ((S5.c 2 0 : Nat) : Int) = 5 := by decide +kernel
theorem kn_r1 : ((S5.c 2 1 : Nat) : Int) = 0 := by decide +kernel
theorem kn_da : ((S6.cnt [97] : Nat) : Int) = 1 := by decide +kernel
theorem kn_db : ((S6.cnt [] : Nat) : Int) = 1 := by decide +kernel
theorem kn_dc : ((S6.a : Nat) : Int) = 2 := by decide +kernel
theorem kn_ea : ((T4.cnt [97] : Nat) : Int) = 2 := by decide +kernel
theorem kn_ec : ((T4.a : Nat) : Int) = 2 := by decide +kernel
theorem sa : (⟨#[97]⟩ : ByteArray).size ≤ maxLen := by decide
theorem sb : (⟨#[]⟩ : ByteArray).size ≤ maxLen := by decide
set_option maxRecDepth 100000 in
set_option maxHeartbeats 8000000 in
theorem known_any (w : World) : Calls Try.prog 10 #[] w fun e w' => e = .returned (.bool true) ∧ Below w.heap.size w w' := by
  go_enter Try.func10, Try.ntmps10
  go_wp2_with fail
  refine (two_new _).mono ?_
  rintro e w1 ⟨p, G, Q, rfl, b1, o1, s1⟩
  go_wp2_with fail
  refine (two_new4 _).mono ?_
  rintro e w2 ⟨q, H, P, rfl, b2, o2, s2⟩
  have P0 : Pair w p G Q q H P S0 T0 w2 := two_start b1 o1 s1 b2 o2 s2
  clear b1 o1 s1 b2 o2 s2
  go_wp2_with fail
  refine (k_places P0 S0_ok ⟨#[97]⟩ sa 15 3 0 1 kn_pa0 kn_pa1 kn_pa2 kn_pa3).mono ?_
  rintro e v1 ⟨rfl, P1⟩
  clear P0
  go_wp2_with fail
  refine (k_places P1 S0_ok ⟨#[]⟩ sb 0 0 0 0 kn_pb0 kn_pb1 kn_pb2 kn_pb3).mono ?_
  rintro e v2 ⟨rfl, P2⟩
  clear P1
  go_wp2_with fail
  refine (k_adds (K := S0) P2 S0_ok ⟨#[97]⟩ sa S0_a false S0_full).mono ?_
  rintro e v3 ⟨rfl, P3⟩
  clear P2
  have P3 : Pair w p G Q q H P S1 T0 v3 := P3
  go_wp2_with fail
  refine (k_adds (K := S1) P3 S1_ok ⟨#[97]⟩ sa S1_a false S1_full).mono ?_
  rintro e v4 ⟨rfl, P4⟩
  clear P3
  have P4 : Pair w p G Q q H P S2 T0 v4 := P4
  go_wp2_with fail
  refine (k_adds (K := S2) P4 S2_ok ⟨#[97]⟩ sa S2_a false S2_full).mono ?_
  rintro e v5 ⟨rfl, P5⟩
  clear P4
  have P5 : Pair w p G Q q H P S3 T0 v5 := P5
  go_wp2_with fail
  refine (k_adds (K := S3) P5 S3_ok ⟨#[]⟩ sb S3_a false S3_full).mono ?_
  rintro e v6 ⟨rfl, P6⟩
  clear P5
  have P6 : Pair w p G Q q H P S4 T0 v6 := P6
  go_wp2_with fail
  refine (k_adds (K := S4) P6 S4_ok ⟨#[]⟩ sb S4_a false S4_full).mono ?_
  rintro e v7 ⟨rfl, P7⟩
  clear P6
  have P7 : Pair w p G Q q H P S5 T0 v7 := P7
  go_wp2_with fail
  refine (k_cnt (K := S5) P7 S5_ok ⟨#[97]⟩ sa 3 kn_ca).mono ?_
  rintro e v8 ⟨rfl, P8⟩
  clear P7
  go_wp2_with fail
  refine (k_cnt (K := S5) P8 S5_ok ⟨#[]⟩ sb 2 kn_cb).mono ?_
  rintro e v9 ⟨rfl, P9⟩
  clear P8
  go_wp2_with fail
  refine (k_a (K := S5) P9 S5_ok 5 kn_cc).mono ?_
  rintro e v10 ⟨rfl, P10⟩
  clear P9
  go_wp2_with fail
  refine (k_row (K := S5) P10 S5_ok 2 (by omega) 2 rfl rfl 5 0 kn_r0 kn_r1).mono ?_
  rintro e v11 ⟨g, rfl, P11, g0, g1⟩
  clear P10
  go_wp2_with fail
  refine (k_half (K := S5) P11 S5_ok).mono ?_
  rintro e v12 ⟨rfl, P12⟩
  clear P11
  have P12 : Pair w p G Q q H P S6 T0 v12 := P12
  go_wp2_with fail
  refine (k_cnt (K := S6) P12 S6_ok ⟨#[97]⟩ sa 1 kn_da).mono ?_
  rintro e v13 ⟨rfl, P13⟩
  clear P12
  go_wp2_with fail
  refine (k_cnt (K := S6) P13 S6_ok ⟨#[]⟩ sb 1 kn_db).mono ?_
  rintro e v14 ⟨rfl, P14⟩
  clear P13
  go_wp2_with fail
  refine (k_a (K := S6) P14 S6_ok 2 kn_dc).mono ?_
  rintro e v15 ⟨rfl, P15⟩
  clear P14
  go_wp2_with fail
  refine (k_addsR (L := T0) P15 T0_ok ⟨#[97]⟩ sa T0_a false T0_full).mono ?_
  rintro e v16 ⟨rfl, P16⟩
  clear P15
  have P16 : Pair w p G Q q H P S6 T1 v16 := P16
  go_wp2_with fail
  refine (k_addsR (L := T1) P16 T1_ok ⟨#[97]⟩ sa T1_a false T1_full).mono ?_
  rintro e v17 ⟨rfl, P17⟩
  clear P16
  have P17 : Pair w p G Q q H P S6 T2 v17 := P17
  go_wp2_with fail
  refine (k_addsR (L := T2) P17 T2_ok ⟨#[97]⟩ sa T2_a false T2_full).mono ?_
  rintro e v18 ⟨rfl, P18⟩
  clear P17
  have P18 : Pair w p G Q q H P S6 T3 v18 := P18
  go_wp2_with fail
  refine (k_addsR (L := T3) P18 T3_ok ⟨#[97]⟩ sa T3_a true T3_full).mono ?_
  rintro e v19 ⟨rfl, P19⟩
  clear P18
  have P19 : Pair w p G Q q H P S6 T4 v19 := P19
  go_wp2_with fail
  refine (k_cntR (L := T4) P19 T4_ok ⟨#[97]⟩ sa 2 kn_ea).mono ?_
  rintro e v20 ⟨rfl, P20⟩
  clear P19
  go_wp2_with fail
  refine (k_aR (L := T4) P20 T4_ok 2 kn_ec).mono ?_
  rintro e v21 ⟨rfl, P21⟩
  clear P20
  go_wp2_with fail
  refine (k_newno P21 8 0 (by intro _ _ h; exact absurd h (by decide)) (by omega)).mono ?_
  rintro e v22 ⟨rfl, P22⟩
  clear P21
  go_wp2_with fail
  refine (k_newno P22 24 0 (by intro _ _ h; exact absurd h (by decide)) (by omega)).mono ?_
  rintro e v23 ⟨rfl, P23⟩
  clear P22
  go_wp2_with fail
  refine (k_newno P23 16 (-1) (by intro _ _ _; omega) (by omega)).mono ?_
  rintro e v24 ⟨rfl, P24⟩
  clear P23
  go_wp2_with fail
  refine (k_rowno P24 S6_ok 4 (by omega)).mono ?_
  rintro e v25 ⟨rfl, P25⟩
  clear P24
  go_wp2_with fail
  go_ret
  exact ⟨rfl, P25.bel⟩
end Go.Proofs.Ytffniljefbpoiaa
