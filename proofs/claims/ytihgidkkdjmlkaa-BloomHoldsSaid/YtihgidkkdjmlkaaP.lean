/-
  Two filters that share no memory, the contracts at them, and known.
-/
import Derived.Test.YtihgidkkdjmlkaaO
namespace Go.Proofs.Ytihgidkkdjmlkaa
open Go.ChangeShapes Go.WideShapes Go.ChangeAt Go.RowKit
set_option linter.unusedVariables false

/-- Two filters that share no memory. -/
structure Pair (w : World) (p g q p2 g2 q2 : Nat) (K M : Bl) (W : World) : Prop where
  bel : Below w.heap.size w W
  s : IsBl W p g q K
  t : IsBl W p2 g2 q2 M
  lf : w.heap.size ≤ g
  lg : w.heap.size ≤ g2
  a1 : p2 ≠ g
  a2 : g2 ≠ g
  a3 : p ≠ g2
section
variable {w W V : World} {p g q p2 g2 q2 : Nat} {K K' M M' : Bl}
theorem Pair.step (z : Pair w p g q p2 g2 q2 K M W) (b : Below W.heap.size W V) : Pair w p g q p2 g2 q2 K M V := ⟨z.bel.trans (b.mono z.bel.size), z.s.below b, z.t.below b, z.lf, z.lg, z.a1, z.a2, z.a3⟩
theorem Pair.alloc (z : Pair w p g q p2 g2 q2 K M W) (o : Obj) : Pair w p g q p2 g2 q2 K M (W.alloc o) := z.step ((Below.refl _ _).alloc (Nat.le_refl _) _)
theorem Pair.left (z : Pair w p g q p2 g2 q2 K M W) (k : Keeps [g] W V) (s : IsBl V p g q K') : Pair w p g q p2 g2 q2 K' M V :=
  ⟨z.bel.trans (k.below (by simpa using z.lf) z.bel.size), s, z.t.keep k (by simpa using z.a1) (by simpa using z.a2), z.lf, z.lg, z.a1, z.a2, z.a3⟩
theorem Pair.swap (z : Pair w p g q p2 g2 q2 K M W) : Pair w p2 g2 q2 p g q M K W := ⟨z.bel, z.t, z.s, z.lg, z.lf, z.a3, z.a2.symm, z.a1⟩
theorem ints3 {B : Nat} {a b c : Int} (h : W.heap[B]? = some (.cells #[.int .i64 a, .int .i64 b, .int .i64 c] 3 (0, 0))) : IsInts W (some ⟨B, 0, none⟩) [a, b, c] :=
  ⟨B, rfl, lt_of_heap h, fun i x hx => by
    rw [cell_of h]
    have hi : i < 3 := (List.getElem?_eq_some_iff.1 hx).1
    have : i = 0 ∨ i = 1 ∨ i = 2 := by omega
    rcases this with rfl | rfl | rfl <;> simpa using hx⟩
theorem nums1 {B : Nat} {a : Int} (h : W.heap[B]? = some (.cells #[.int .u64 a] 22 (0, 0))) : Nums W .u64 22 B 1 1 (fun _ => a) :=
  ⟨_, h, Nat.le_refl _, by decide, rfl, fun i (hi : i < 1) => by
    obtain rfl : i = 0 := by omega
    rfl⟩
theorem join_nil (s : IsBl w p g q K) (hK : K.Ok) : Calls Try.prog 20 #[.pointer (some ⟨p, 0, none⟩), .pointer none] w fun e w' => e = .returned (.int .i64 1) ∧ w = w' := by
  go_enter Try.func20, Try.ntmps20
  go_wp2_with (first | (go_at_call 35; (with_reducible refine (zero_is s hK).mono ?_); rintro e w1 ⟨rfl, rfl⟩) | (go_at_call 35; (with_reducible refine (zero_nil _).mono ?_); rintro e w1 ⟨rfl, rfl⟩))
  go_ret
  exact ⟨rfl, rfl⟩
theorem l_places {B : Nat} {a b c : Int} (z : Pair w p g q p2 g2 q2 K M W) (hK : K.Ok) (key : ByteArray) (hs : key.size ≤ maxLen) (h3 : K.h = 3) (hp : plcsN K key.data.toList 3 = [a, b, c]) (hB : W.heap[B]? = some (.cells #[.int .i64 a, .int .i64 b, .int .i64 c] 3 (0, 0))) :
    Calls Try.prog 13 #[.pointer (some ⟨p, 0, none⟩), .string key, .slice (some ⟨B, 0, none⟩) 3 3] W fun e w' => e = .returned (.bool true) ∧ Pair w p g q p2 g2 q2 K M w' := by
  have := lplaces_is (B := some ⟨B, 0, none⟩) (c := 3) z.s hK key hs (by rw [h3, hp]; exact ints3 hB)
  rw [h3] at this
  exact this.mono fun e w' ⟨q1, q2⟩ => ⟨q1, z.step q2⟩
theorem l_adds (z : Pair w p g q p2 g2 q2 K M W) (hK : K.Ok) (key : ByteArray) (hs : key.size ≤ maxLen) (b : Bool) (hb : (!K.has key.data.toList) = b) :
    Calls Try.prog 15 #[.pointer (some ⟨p, 0, none⟩), .string key, .bool b] W fun e w' => e = .returned (.bool true) ∧ Pair w p g q p2 g2 q2 (K.add key.data.toList) M w' :=
  (adds_is z.s hK key hs b hb).mono fun e w' ⟨q1, q2, q3⟩ => ⟨q1, z.left q2 q3⟩
theorem r_adds (z : Pair w p g q p2 g2 q2 K M W) (hM : M.Ok) (key : ByteArray) (hs : key.size ≤ maxLen) (b : Bool) (hb : (!M.has key.data.toList) = b) :
    Calls Try.prog 15 #[.pointer (some ⟨p2, 0, none⟩), .string key, .bool b] W fun e w' => e = .returned (.bool true) ∧ Pair w p g q p2 g2 q2 K (M.add key.data.toList) w' :=
  (l_adds z.swap hM key hs b hb).mono fun e w' ⟨q1, q2⟩ => ⟨q1, q2.swap⟩
theorem l_has (z : Pair w p g q p2 g2 q2 K M W) (hK : K.Ok) (key : ByteArray) (hs : key.size ≤ maxLen) (b : Bool) (hb : K.has key.data.toList = b) :
    Calls Try.prog 16 #[.pointer (some ⟨p, 0, none⟩), .string key] W fun e w' => e = .returned (.bool b) ∧ Pair w p g q p2 g2 q2 K M w' :=
  (has_is z.s hK key hs).mono fun e w' ⟨q1, q2⟩ => ⟨by rw [q1, hb], z.step q2⟩
theorem l_ones (z : Pair w p g q p2 g2 q2 K M W) (hK : K.Ok) (n : Int) (hn : ((K.ones : Nat) : Int) = n) :
    Calls Try.prog 17 #[.pointer (some ⟨p, 0, none⟩)] W fun e w' => e = .returned (.int .i64 n) ∧ Pair w p g q p2 g2 q2 K M w' :=
  (ones_is z.s hK).mono fun e w' ⟨q1, q2⟩ => ⟨by rw [q1, hn], q2 ▸ z⟩
theorem l_words1 (z : Pair w p g q p2 g2 q2 K M W) (hK : K.Ok) (h64 : K.n = 64) :
    Calls Try.prog 24 #[.pointer (some ⟨p, 0, none⟩)] W fun e w' => ∃ d, e = .returned (.slice (some ⟨d, 0, none⟩) 1 1) ∧ Pair w p g q p2 g2 q2 K M w' ∧ Nums w' .u64 22 d 1 1 (wordsF K.b) :=
  (words_is z.s hK).mono fun e w' ⟨d, q1, q2, q3, q4⟩ => by rw [h64] at q1 q4; exact ⟨d, q1, z.step q2, q4⟩
theorem r_words1 (z : Pair w p g q p2 g2 q2 K M W) (hM : M.Ok) (h64 : M.n = 64) :
    Calls Try.prog 24 #[.pointer (some ⟨p2, 0, none⟩)] W fun e w' => ∃ d, e = .returned (.slice (some ⟨d, 0, none⟩) 1 1) ∧ Pair w p g q p2 g2 q2 K M w' ∧ Nums w' .u64 22 d 1 1 (wordsF M.b) :=
  (l_words1 z.swap hM h64).mono fun e w' ⟨d, q1, q2, q3⟩ => ⟨d, q1, q2.swap, q3⟩
theorem p_same1 {d B : Nat} {f : Nat → Int} {a : Int} (z : Pair w p g q p2 g2 q2 K M W) (n : Nums W .u64 22 d 1 1 f) (hf : f 0 = a) (hB : W.heap[B]? = some (.cells #[.int .u64 a] 22 (0, 0))) :
    Calls Try.prog 23 #[.slice (some ⟨d, 0, none⟩) 1 1, .slice (some ⟨B, 0, none⟩) 1 1] W fun e w' => e = .returned (.bool true) ∧ Pair w p g q p2 g2 q2 K M w' :=
  (same_is n (nums1 hB) (fun i hi => by obtain rfl : i = 0 := by omega
                                        exact hf) (by decide)).mono fun e w' ⟨q1, q2⟩ => ⟨q1, z.step q2⟩
theorem l_join (z : Pair w p g q p2 g2 q2 K M W) (hK : K.Ok) (hM : M.Ok) (hl : K.like M = true) :
    Calls Try.prog 20 #[.pointer (some ⟨p, 0, none⟩), .pointer (some ⟨p2, 0, none⟩)] W fun e w' => e = .returned (.int .i64 0) ∧ Pair w p g q p2 g2 q2 (K.join M) M w' :=
  (join_is z.s hK z.t hM hl z.a2).mono fun e w' ⟨q1, q2, q3⟩ => ⟨q1, z.left q2 q3⟩
theorem l_joinNil (z : Pair w p g q p2 g2 q2 K M W) (hK : K.Ok) :
    Calls Try.prog 20 #[.pointer (some ⟨p, 0, none⟩), .pointer none] W fun e w' => e = .returned (.int .i64 1) ∧ Pair w p g q p2 g2 q2 K M w' :=
  (join_nil z.s hK).mono fun e w' ⟨q1, q2⟩ => ⟨q1, q2 ▸ z⟩
theorem l_clear (z : Pair w p g q p2 g2 q2 K M W) (hK : K.Ok) :
    Calls Try.prog 25 #[.pointer (some ⟨p, 0, none⟩)] W fun e w' => e = .returned (.int .i64 0) ∧ Pair w p g q p2 g2 q2 K.none M w' :=
  (clear_is z.s hK).mono fun e w' ⟨q1, q2, q3⟩ => ⟨q1, z.left q2 q3⟩
theorem p_newno (z : Pair w p g q p2 g2 q2 K M W) (n h : Int) (hn : 0 ≤ n → sizeB n.toNat = true → h < 1 ∨ 8 < h) :
    Calls Try.prog 11 #[.int .i64 n, .int .i64 h, .int .u64 0] W fun e w' => e = .returned (.tuple #[.pointer none, .int .i64 2]) ∧ Pair w p g q p2 g2 q2 K M w' ∧ Below W.heap.size W w' :=
  (new_no n h 0 hn ⟨by omega, by omega⟩ W).mono fun e w' ⟨q1, q2⟩ => ⟨q1, q2 ▸ z, q2 ▸ Below.refl _ _⟩
theorem pair_start {w w1 w2 : World} (b1 : Below w.heap.size w w1) (h1 : w.heap.size ≤ p) (k1 : w.heap.size ≤ g) (s1 : IsBl w1 p g q K) (b2 : Below w1.heap.size w1 w2) (h2 : w1.heap.size ≤ p2) (k2 : w1.heap.size ≤ g2) (s2 : IsBl w2 p2 g2 q2 M) : Pair w p g q p2 g2 q2 K M w2 :=
  ⟨b1.trans (b2.mono b1.size), s1.below b2, s2, k1, Nat.le_trans b1.size k2, by have := s1.lt; omega, by have := s1.lt; omega, by have := s1.lt; omega⟩
end
def F0 : Bl := Bl.new 64 3 0
def F1 : Bl := F0.add [97]
def F2 : Bl := F1.add [97]
def G1 : Bl := F0.add []
def F3 : Bl := F2.join G1
def F4 : Bl := F3.none
def D0 : Bl := Bl.new 64 2 0
theorem F0_ok : F0.Ok := Bl.Ok.new rfl (by omega) ⟨by omega, by omega⟩
theorem F1_ok : F1.Ok := F0_ok.add _
theorem F2_ok : F2.Ok := F1_ok.add _
theorem G1_ok : G1.Ok := F0_ok.add _
theorem Bl.Ok.join {K M : Bl} (h : K.Ok) : (K.join M).Ok := ⟨h.pow, h.hash, h.seed⟩
theorem Bl.Ok.none {K : Bl} (h : K.Ok) : K.none.Ok := ⟨h.pow, h.hash, h.seed⟩
theorem F3_ok : F3.Ok := F2_ok.join
theorem F4_ok : F4.Ok := F3_ok.none
theorem D0_ok : D0.Ok := Bl.Ok.new rfl (by omega) ⟨by omega, by omega⟩
theorem kn_pa : plcsN F0 [97] 3 = [31, 32, 33] := by decide +kernel
theorem kn_pb : plcsN F0 [] 3 = [0, 1, 2] := by decide +kernel
theorem kn_a0 : (!F0.has [97]) = true := by decide +kernel
theorem kn_a1 : (!F1.has [97]) = false := by decide +kernel
theorem kn_h2 : F2.has [97] = true := by decide +kernel
theorem kn_h3 : F2.has [] = false := by decide +kernel
theorem kn_o2 : ((F2.ones : Nat) : Int) = 3 := by decide +kernel
theorem kn_w2 : wordsF F2.b 0 = 15032385536 := by decide +kernel
theorem kn_g0 : (!F0.has []) = true := by decide +kernel
theorem kn_l : F2.like G1 = true := by decide +kernel
theorem kn_w3 : wordsF F3.b 0 = 15032385543 := by decide +kernel
theorem kn_wg : wordsF G1.b 0 = 7 := by decide +kernel
theorem kn_h4 : F4.has [97] = false := by decide +kernel
theorem kn_o4 : ((F4.ones : Nat) : Int) = 0 := by decide +kernel
theorem kn_ld : ¬ F4.like D0 = true := by decide +kernel
theorem sa : (⟨#[97]⟩ : ByteArray).size ≤ maxLen := by decide
theorem sb : (⟨#[]⟩ : ByteArray).size ≤ maxLen := by decide
theorem new64 (w : World) : Calls Try.prog 11 #[.int .i64 64, .int .i64 3, .int .u64 0] w fun e w' => ∃ p g, e = .returned (.tuple #[.pointer (some ⟨p, 0, none⟩), .int .i64 0]) ∧ Below w.heap.size w w' ∧ w.heap.size ≤ p ∧ w.heap.size ≤ g ∧ IsBl w' p g 1 F0 :=
  _root_.Go.Proofs.Ytihgidkkdjmlkaa.new_ok 64 3 0 rfl (by omega) ⟨by omega, by omega⟩ w
theorem new642 (w : World) : Calls Try.prog 11 #[.int .i64 64, .int .i64 2, .int .u64 0] w fun e w' => ∃ p g, e = .returned (.tuple #[.pointer (some ⟨p, 0, none⟩), .int .i64 0]) ∧ Below w.heap.size w w' ∧ w.heap.size ≤ p ∧ w.heap.size ≤ g ∧ IsBl w' p g 1 D0 :=
  _root_.Go.Proofs.Ytihgidkkdjmlkaa.new_ok 64 2 0 rfl (by omega) ⟨by omega, by omega⟩ w
set_option maxRecDepth 100000 in
set_option maxHeartbeats 8000000 in
theorem known_any (w : World) : Calls Try.prog 10 #[] w fun e w' => e = .returned (.bool true) ∧ Below w.heap.size w w' := by
  go_enter Try.func10, Try.ntmps10
  go_wp2_with fail
  refine (new64 _).mono ?_
  rintro e w1 ⟨p, g, rfl, b1, h1, k1, s1⟩
  go_wp2_with fail
  refine (new64 _).mono ?_
  rintro e w2 ⟨p2, g2, rfl, b2, h2, k2, s2⟩
  have P0 : Pair w p g 1 p2 g2 1 F0 F0 w2 := pair_start b1 h1 k1 s1 b2 h2 k2 s2
  clear b1 s1 b2 s2 h1 h2 k1 k2
  go_wp2_with fail
  refine (l_places (P0.alloc _) F0_ok ⟨#[97]⟩ sa rfl kn_pa (heap_new rfl)).mono ?_
  rintro e v1 ⟨rfl, P1⟩
  clear P0
  go_wp2_with fail
  refine (l_places (P1.alloc _) F0_ok ⟨#[]⟩ sb rfl kn_pb (heap_new rfl)).mono ?_
  rintro e v2 ⟨rfl, P2⟩
  clear P1
  go_wp2_with fail
  refine (l_adds (K := F0) P2 F0_ok ⟨#[97]⟩ sa true kn_a0).mono ?_
  rintro e v3 ⟨rfl, P3⟩
  clear P2
  have P3 : Pair w p g 1 p2 g2 1 F1 F0 v3 := P3
  go_wp2_with fail
  refine (l_adds (K := F1) P3 F1_ok ⟨#[97]⟩ sa false kn_a1).mono ?_
  rintro e v4 ⟨rfl, P4⟩
  clear P3
  have P4 : Pair w p g 1 p2 g2 1 F2 F0 v4 := P4
  go_wp2_with fail
  refine (l_has (K := F2) P4 F2_ok ⟨#[97]⟩ sa true kn_h2).mono ?_
  rintro e v5 ⟨rfl, P5⟩
  clear P4
  go_wp2_with fail
  refine (l_has (K := F2) P5 F2_ok ⟨#[]⟩ sb false kn_h3).mono ?_
  rintro e v6 ⟨rfl, P6⟩
  clear P5
  go_wp2_with fail
  refine (l_ones (K := F2) P6 F2_ok 3 kn_o2).mono ?_
  rintro e v7 ⟨rfl, P7⟩
  clear P6
  go_wp2_with fail
  refine (l_words1 (K := F2) P7 F2_ok rfl).mono ?_
  rintro e v8 ⟨d1, rfl, P8, n1⟩
  clear P7
  go_wp2_with fail
  refine (p_same1 (P8.alloc _) (n1.alloc _) kn_w2 (heap_new rfl)).mono ?_
  rintro e v9 ⟨rfl, P9⟩
  clear P8
  go_wp2_with fail
  refine (r_adds (M := F0) P9 F0_ok ⟨#[]⟩ sb true kn_g0).mono ?_
  rintro e v10 ⟨rfl, P10⟩
  clear P9
  have P10 : Pair w p g 1 p2 g2 1 F2 G1 v10 := P10
  go_wp2_with fail
  refine (l_join (K := F2) (M := G1) P10 F2_ok G1_ok kn_l).mono ?_
  rintro e v11 ⟨rfl, P11⟩
  clear P10
  have P11 : Pair w p g 1 p2 g2 1 F3 G1 v11 := P11
  go_wp2_with fail
  refine (l_words1 (K := F3) P11 F3_ok rfl).mono ?_
  rintro e v12 ⟨d2, rfl, P12, n2⟩
  clear P11
  go_wp2_with fail
  refine (p_same1 (P12.alloc _) (n2.alloc _) kn_w3 (heap_new rfl)).mono ?_
  rintro e v13 ⟨rfl, P13⟩
  clear P12
  go_wp2_with fail
  refine (r_words1 (M := G1) P13 G1_ok rfl).mono ?_
  rintro e v14 ⟨d3, rfl, P14, n3⟩
  clear P13
  go_wp2_with fail
  refine (p_same1 (P14.alloc _) (n3.alloc _) kn_wg (heap_new rfl)).mono ?_
  rintro e v15 ⟨rfl, P15⟩
  clear P14
  go_wp2_with fail
  refine (l_clear (K := F3) P15 F3_ok).mono ?_
  rintro e v16 ⟨rfl, P16⟩
  clear P15
  have P16 : Pair w p g 1 p2 g2 1 F4 G1 v16 := P16
  go_wp2_with fail
  refine (l_has (K := F4) P16 F4_ok ⟨#[97]⟩ sa false kn_h4).mono ?_
  rintro e v17 ⟨rfl, P17⟩
  clear P16
  go_wp2_with fail
  refine (l_ones (K := F4) P17 F4_ok 0 kn_o4).mono ?_
  rintro e v18 ⟨rfl, P18⟩
  clear P17
  go_wp2_with fail
  refine (l_joinNil (K := F4) P18 F4_ok).mono ?_
  rintro e v19 ⟨rfl, P19⟩
  clear P18
  go_wp2_with fail
  refine wp_seen (fun W => Pair w p g 1 p2 g2 1 F4 G1 W ∧ W.heap[v19.heap.size]? = some (.cells #[.int .i64 32, .int .i64 3, .int .i64 96, .int .i64 3, .int .i64 64, .int .i64 0, .int .i64 64, .int .i64 9] 67 (0, 0))) ⟨P19.alloc _, heap_new rfl⟩ ?_
  clear P19
  generalize v19.heap.size = B
  rintro W0 ⟨Q0, hB⟩
  refine wp_loop_rounds 5 ?_
  try rw [rounds_succ]
  have c0 : W0.cell? ⟨B, 0, none⟩ = some (.int .i64 32) := cell_of hB 0
  have c1 : W0.cell? ⟨B, 1, none⟩ = some (.int .i64 3) := cell_of hB 1
  have hlt := lt_of_heap hB
  go_wp2_with (first | (go_at_call 11; refine (p_newno (Q0.alloc _) 32 3 (by intro _ h; exact absurd h (by decide))).mono ?_; rintro e v ⟨rfl, Z, b⟩; have hB2 := (b.block B (lt_of_heap (heap_alloc hB (.cells #[.int .i64 32, .int .i64 3] 67)))).trans (heap_alloc hB (.cells #[.int .i64 32, .int .i64 3] 67))))
  refine wp_seen (fun W => Pair w p g 1 p2 g2 1 F4 G1 W ∧ W.heap[B]? = some (.cells #[.int .i64 32, .int .i64 3, .int .i64 96, .int .i64 3, .int .i64 64, .int .i64 0, .int .i64 64, .int .i64 9] 67 (0, 0))) ⟨Z, hB2⟩ ?_
  clear c0 c1 hlt hB hB2 Z b Q0
  rintro W1 ⟨Q1, hB⟩
  try rw [rounds_succ]
  have c2 : W1.cell? ⟨B, 2, none⟩ = some (.int .i64 96) := cell_of hB 2
  have c3 : W1.cell? ⟨B, 3, none⟩ = some (.int .i64 3) := cell_of hB 3
  have hlt := lt_of_heap hB
  go_wp2_with (first | (go_at_call 11; refine (p_newno (Q1.alloc _) 96 3 (by intro _ h; exact absurd h (by decide))).mono ?_; rintro e v ⟨rfl, Z, b⟩; have hB2 := (b.block B (lt_of_heap (heap_alloc hB (.cells #[.int .i64 96, .int .i64 3] 67)))).trans (heap_alloc hB (.cells #[.int .i64 96, .int .i64 3] 67))))
  refine wp_seen (fun W => Pair w p g 1 p2 g2 1 F4 G1 W ∧ W.heap[B]? = some (.cells #[.int .i64 32, .int .i64 3, .int .i64 96, .int .i64 3, .int .i64 64, .int .i64 0, .int .i64 64, .int .i64 9] 67 (0, 0))) ⟨Z, hB2⟩ ?_
  clear c2 c3 hlt hB hB2 Z b Q1
  rintro W2 ⟨Q2, hB⟩
  try rw [rounds_succ]
  have c4 : W2.cell? ⟨B, 4, none⟩ = some (.int .i64 64) := cell_of hB 4
  have c5 : W2.cell? ⟨B, 5, none⟩ = some (.int .i64 0) := cell_of hB 5
  have hlt := lt_of_heap hB
  go_wp2_with (first | (go_at_call 11; refine (p_newno (Q2.alloc _) 64 0 (by intro _ _; omega)).mono ?_; rintro e v ⟨rfl, Z, b⟩; have hB2 := (b.block B (lt_of_heap (heap_alloc hB (.cells #[.int .i64 64, .int .i64 0] 67)))).trans (heap_alloc hB (.cells #[.int .i64 64, .int .i64 0] 67))))
  refine wp_seen (fun W => Pair w p g 1 p2 g2 1 F4 G1 W ∧ W.heap[B]? = some (.cells #[.int .i64 32, .int .i64 3, .int .i64 96, .int .i64 3, .int .i64 64, .int .i64 0, .int .i64 64, .int .i64 9] 67 (0, 0))) ⟨Z, hB2⟩ ?_
  clear c4 c5 hlt hB hB2 Z b Q2
  rintro W3 ⟨Q3, hB⟩
  try rw [rounds_succ]
  have c6 : W3.cell? ⟨B, 6, none⟩ = some (.int .i64 64) := cell_of hB 6
  have c7 : W3.cell? ⟨B, 7, none⟩ = some (.int .i64 9) := cell_of hB 7
  have hlt := lt_of_heap hB
  go_wp2_with (first | (go_at_call 11; refine (p_newno (Q3.alloc _) 64 9 (by intro _ _; omega)).mono ?_; rintro e v ⟨rfl, Z, b⟩; have hB2 := (b.block B (lt_of_heap (heap_alloc hB (.cells #[.int .i64 64, .int .i64 9] 67)))).trans (heap_alloc hB (.cells #[.int .i64 64, .int .i64 9] 67))))
  refine wp_seen (fun W => Pair w p g 1 p2 g2 1 F4 G1 W ∧ W.heap[B]? = some (.cells #[.int .i64 32, .int .i64 3, .int .i64 96, .int .i64 3, .int .i64 64, .int .i64 0, .int .i64 64, .int .i64 9] 67 (0, 0))) ⟨Z, hB2⟩ ?_
  clear c6 c7 hlt hB hB2 Z b Q3
  rintro W4 ⟨Q4, hB⟩
  try rw [rounds_succ]
  go_wp2_with fail
  refine (new642 _).mono ?_
  rintro e x1 ⟨pd, gd, rfl, b1, h1, k1, s1⟩
  have Q5 := Q4.step b1
  clear Q4
  go_wp2_with fail
  refine (join_no (K := F4) (M := D0) Q5.s F4_ok s1 D0_ok kn_ld).mono ?_
  rintro e x2 ⟨rfl, b2⟩
  have Q6 := Q5.step b2
  go_wp2_with fail
  go_ret
  exact ⟨rfl, Q6.bel⟩
end Go.Proofs.Ytihgidkkdjmlkaa
