/-
  The contract of the law's known.
-/
import Derived.Test.YteibleghnadelaaT
namespace Go.Proofs.Yteibleghnadelaa
open Go.ChangeShapes Go.WideShapes Go.ChangeAt Go.RowKit
set_option linter.unusedVariables false

theorem slots_lit {w : World} {B : Nat} {cs : Array Value} {T : List Int} {t : TypeId} (h : w.heap[B]? = some (.cells cs t (0, 0))) (ht : cs.toList = slotsL T) : Slots w (some ⟨B, 0, none⟩) T := fun _ => ⟨B, 0, rfl, lt_of_heap h, fun i x hx => by
  rw [Nat.zero_add, cell_of h]
  have h1 : (slotsL T)[i]? = some (.int .u32 x) := by unfold slotsL; rw [List.getElem?_map, hx]; rfl
  rw [← ht] at h1
  simpa using h1⟩
theorem ents_lit {w : World} {B : Nat} {cs : Array Value} {T : List (Int × Int)} {t : TypeId} (h : w.heap[B]? = some (.cells cs t (0, 0))) (ht : cs.toList = entsL T) : Ents w (some ⟨B, 0, none⟩) T := fun _ => ⟨B, 0, rfl, lt_of_heap h, fun i x hx => by
  obtain ⟨h1, h2⟩ := entsL_get hx
  rw [← ht] at h1 h2
  rw [Nat.zero_add, cell_of h, cell_of h]
  exact ⟨by simpa using h1, by simpa using h2⟩⟩
/-- The world of the examples. -/
structure KS (w : World) (g1 g2 p q : Nat) (W : World) : Prop where
  bel : Below w.heap.size w W
  e1 : Ents W (some ⟨g1, 0, none⟩) [(1, 4), (2, 5)]
  e2 : Ents W (some ⟨g2, 0, none⟩) [(3, 6), (9, 1)]
  box : W.heap[p]? = some (.cells #[.slice (some ⟨g1, 0, none⟩) 2 2, .slice (some ⟨g2, 0, none⟩) 2 2] 24 (0, 0))
  all : Slots W (some ⟨q, 0, none⟩) [1, 2, 3, 9]
theorem KS.step {w W V : World} {g1 g2 p q : Nat} (z : KS w g1 g2 p q W) (b : Below W.heap.size W V) : KS w g1 g2 p q V :=
  ⟨z.bel.trans (b.mono z.bel.size), z.e1.below b (Nat.le_refl _), z.e2.below b (Nat.le_refl _), (b.block p (lt_of_heap z.box)).trans z.box, z.all.below b (Nat.le_refl _)⟩
theorem KS.alloc {w W : World} {g1 g2 p q : Nat} (z : KS w g1 g2 p q W) (o : Obj) : KS w g1 g2 p q (W.alloc o) := z.step ((Below.refl _ _).alloc (Nat.le_refl _) _)
theorem KS.c0 {w W : World} {g1 g2 p q : Nat} (z : KS w g1 g2 p q W) : W.cell? ⟨p, 0, none⟩ = some (.slice (some ⟨g1, 0, none⟩) 2 2) := cell_of z.box 0
theorem KS.c1 {w W : World} {g1 g2 p q : Nat} (z : KS w g1 g2 p q W) : W.cell? ⟨p, 1, none⟩ = some (.slice (some ⟨g2, 0, none⟩) 2 2) := cell_of z.box 1
theorem kor {w W : World} {g1 g2 p q : Nat} {s : Option Addr} {n c : Nat} {k er : Int} (z : KS w g1 g2 p q W) (T : List (Int × Int)) (hT : Ents W s T) (hn : T.length = n) (hn2 : n ≤ 1000) (h : resO k ([(1, 4), (2, 5)] ++ [(3, 6), (9, 1)]) = T ∧ errO ([(1, 4), (2, 5)] ++ [(3, 6), (9, 1)]) = er) :
    Calls Try.prog 13 #[.agg #[.slice (some ⟨g1, 0, none⟩) 2 2, .slice (some ⟨g2, 0, none⟩) 2 2], .int .u32 k, .slice s n c, .int .i64 er] W fun e w' => e = .returned (.bool true) ∧ KS w g1 g2 p q w' := by
  refine (orders_is (c1 := 2) (c2 := 2) (c3 := c) (k := k) (er := er) z.e1 z.e2 hT rfl rfl (by decide) hn hn2).mono ?_
  rintro e w' ⟨rfl, b⟩
  exact ⟨by rw [decide_eq_true h], z.step b⟩
theorem kch {w W : World} {g1 g2 p q : Nat} {s : Option Addr} {n c : Nat} {k count bytes er : Int} (z : KS w g1 g2 p q W) (T : List Int) (hT : Slots W s T) (hn : T.length = n) (hn2 : n ≤ 1000) (h : resC k count bytes ([(1, 4), (2, 5)] ++ [(3, 6), (9, 1)]) = T ∧ errC count bytes ([(1, 4), (2, 5)] ++ [(3, 6), (9, 1)]) = er) :
    Calls Try.prog 15 #[.agg #[.slice (some ⟨g1, 0, none⟩) 2 2, .slice (some ⟨g2, 0, none⟩) 2 2], .int .u32 k, .int .i64 count, .int .i64 bytes, .slice s n c, .int .i64 er] W fun e w' => e = .returned (.bool true) ∧ KS w g1 g2 p q w' := by
  refine (chooses_is (c1 := 2) (c2 := 2) (c3 := c) (k := k) (count := count) (bytes := bytes) (er := er) z.e1 z.e2 hT rfl rfl (by decide) hn hn2).mono ?_
  rintro e w' ⟨rfl, b⟩
  exact ⟨by rw [decide_eq_true h], z.step b⟩
theorem kck {w W : World} {g1 g2 p q : Nat} {s : Option Addr} {n c : Nat} {k count bytes wn er : Int} (z : KS w g1 g2 p q W) (T : List Int) (hT : Slots W s T) (hn : T.length = n) (hn2 : n ≤ 500) (h : resK k count bytes ([(1, 4), (2, 5)] ++ [(3, 6), (9, 1)]) T = wn ∧ errC count bytes ([(1, 4), (2, 5)] ++ [(3, 6), (9, 1)]) = er) :
    Calls Try.prog 17 #[.agg #[.slice (some ⟨g1, 0, none⟩) 2 2, .slice (some ⟨g2, 0, none⟩) 2 2], .int .u32 k, .int .i64 count, .int .i64 bytes, .slice s n c, .int .i64 wn, .int .i64 er] W fun e w' => e = .returned (.bool true) ∧ KS w g1 g2 p q w' := by
  refine (checks_is (c1 := 2) (c2 := 2) (c3 := c) (k := k) (count := count) (bytes := bytes) (wn := wn) (er := er) z.e1 z.e2 hT rfl rfl (by decide) hn hn2).mono ?_
  rintro e w' ⟨rfl, b⟩
  exact ⟨by rw [decide_eq_true h], z.step b⟩
theorem vo0 : resO 4294967295 ([(1, 4), (2, 5)] ++ [(3, 6), (9, 1)]) = [(1, 4), (2, 5), (3, 6), (9, 1)] ∧ errO ([(1, 4), (2, 5)] ++ [(3, 6), (9, 1)]) = 0 := by decide +kernel
theorem vo1 : resO 2 ([(1, 4), (2, 5)] ++ [(3, 6), (9, 1)]) = [(1, 4), (3, 6), (9, 1)] ∧ errO ([(1, 4), (2, 5)] ++ [(3, 6), (9, 1)]) = 0 := by decide +kernel
theorem vc0 : resC 4294967295 4 16 ([(1, 4), (2, 5)] ++ [(3, 6), (9, 1)]) = [] ∧ errC 4 16 ([(1, 4), (2, 5)] ++ [(3, 6), (9, 1)]) = 0 := by decide +kernel
theorem vc1 : resC 4294967295 3 16 ([(1, 4), (2, 5)] ++ [(3, 6), (9, 1)]) = [1] ∧ errC 3 16 ([(1, 4), (2, 5)] ++ [(3, 6), (9, 1)]) = 0 := by decide +kernel
theorem vc2 : resC 4294967295 4 11 ([(1, 4), (2, 5)] ++ [(3, 6), (9, 1)]) = [1, 2] ∧ errC 4 11 ([(1, 4), (2, 5)] ++ [(3, 6), (9, 1)]) = 0 := by decide +kernel
theorem vc3 : resC 4294967295 4 0 ([(1, 4), (2, 5)] ++ [(3, 6), (9, 1)]) = [1, 2, 3, 9] ∧ errC 4 0 ([(1, 4), (2, 5)] ++ [(3, 6), (9, 1)]) = 0 := by decide +kernel
theorem vc4 : resC 4294967295 0 99 ([(1, 4), (2, 5)] ++ [(3, 6), (9, 1)]) = [1, 2, 3, 9] ∧ errC 0 99 ([(1, 4), (2, 5)] ++ [(3, 6), (9, 1)]) = 0 := by decide +kernel
theorem vc5 : resC 2 4 5 ([(1, 4), (2, 5)] ++ [(3, 6), (9, 1)]) = [1, 3, 9] ∧ errC 4 5 ([(1, 4), (2, 5)] ++ [(3, 6), (9, 1)]) = 0 := by decide +kernel
theorem vc6 : resC 2 4 4 ([(1, 4), (2, 5)] ++ [(3, 6), (9, 1)]) = [1, 3, 9] ∧ errC 4 4 ([(1, 4), (2, 5)] ++ [(3, 6), (9, 1)]) = 0 := by decide +kernel
theorem vc7 : resC 2 3 99 ([(1, 4), (2, 5)] ++ [(3, 6), (9, 1)]) = [1] ∧ errC 3 99 ([(1, 4), (2, 5)] ++ [(3, 6), (9, 1)]) = 0 := by decide +kernel
theorem vc8 : resC 4294967295 (-1) 0 ([(1, 4), (2, 5)] ++ [(3, 6), (9, 1)]) = [] ∧ errC (-1) 0 ([(1, 4), (2, 5)] ++ [(3, 6), (9, 1)]) = 2 := by decide +kernel
theorem vk0 : resK 4294967295 4 11 ([(1, 4), (2, 5)] ++ [(3, 6), (9, 1)]) [1, 2] = -1 ∧ errC 4 11 ([(1, 4), (2, 5)] ++ [(3, 6), (9, 1)]) = 0 := by decide +kernel
theorem vk1 : resK 4294967295 4 11 ([(1, 4), (2, 5)] ++ [(3, 6), (9, 1)]) [1, 3] = 1 ∧ errC 4 11 ([(1, 4), (2, 5)] ++ [(3, 6), (9, 1)]) = 0 := by decide +kernel
theorem vk2 : resK 4294967295 4 11 ([(1, 4), (2, 5)] ++ [(3, 6), (9, 1)]) [1] = 1 ∧ errC 4 11 ([(1, 4), (2, 5)] ++ [(3, 6), (9, 1)]) = 0 := by decide +kernel
theorem vk3 : resK 4294967295 4 11 ([(1, 4), (2, 5)] ++ [(3, 6), (9, 1)]) [1, 2, 3] = 2 ∧ errC 4 11 ([(1, 4), (2, 5)] ++ [(3, 6), (9, 1)]) = 0 := by decide +kernel
theorem vl : resO 4294967295 ([(1, 4), (1, 5)] ++ []) = [] ∧ errO ([(1, 4), (1, 5)] ++ []) = 2 := by decide +kernel
theorem klast {w W : World} {g1 g2 p q : Nat} {s : Option Addr} {c1 : Nat} (z : KS w g1 g2 p q W) (hE : Ents W s [(1, 4), (1, 5)]) :
    Calls Try.prog 13 #[.agg #[.slice s 2 c1, .slice none 0 0], .int .u32 4294967295, .slice none 0 0, .int .i64 2] W fun e w' => e = .returned (.bool true) ∧ KS w g1 g2 p q w' := by
  refine (orders_is (c1 := c1) (c2 := 0) (c3 := 0) (s2 := none) (s3 := none) (n2 := 0) (n3 := 0) (L2 := []) (T := []) (k := 4294967295) (er := 2) hE Ents.nil Ents.nil rfl rfl (by decide) rfl (by decide)).mono ?_
  rintro e w' ⟨rfl, b⟩
  exact ⟨by rw [decide_eq_true vl], z.step b⟩
set_option maxHeartbeats 8000000 in
theorem known_is (w : World) : Calls Try.prog 8 #[] w fun e w' => e = .returned (.bool true) ∧ Below w.heap.size w w' := by
  go_enter Try.func8, Try.ntmps8
  go_upto_region 3 with (first | (go_at_call 22; refine (example_is w).mono ?_; rintro e w1 ⟨g1, g2, rfl, e1, e2, b1⟩))
  refine wp_seen (KS w g1 g2 w1.heap.size (w1.heap.size + 1)) ⟨?_, ?_, ?_, ?_, ?_⟩ ?_
  · exact (b1.alloc b1.size _).alloc (by have := b1.size; simp; omega) _
  · exact e1.below (((Below.refl _ _).alloc (Nat.le_refl _) _).alloc (by simp) _) (Nat.le_refl _)
  · exact e2.below (((Below.refl _ _).alloc (Nat.le_refl _) _).alloc (by simp) _) (Nat.le_refl _)
  · exact heap_alloc (heap_new rfl) _
  · exact slots_lit (heap_new (by simp)) rfl
  rintro W z
  clear e1 e2 b1
  have c0 := z.c0
  have c1 := z.c1
  generalize w1.heap.size = p at *
  have T0 := Lib.hid (rfl : 0 = 0)
  go_wp2_with (first
    | (go_at_call 13; clear T0; refine (kor (by exact KS.alloc (by assumption) _) [(1, 4), (2, 5), (3, 6), (9, 1)] (by exact ents_lit (heap_new rfl) rfl) (by rfl) (by decide) vo0).mono ?_; rintro e wo0 ⟨rfl, zo0⟩; have co0 := zo0.c0; have dx0 := zo0.c1; have T1 := Lib.hid (rfl : 1 = 1))
    | (go_at_call 13; clear T1; refine (kor (by exact KS.alloc (by assumption) _) [(1, 4), (3, 6), (9, 1)] (by exact ents_lit (heap_new rfl) rfl) (by rfl) (by decide) vo1).mono ?_; rintro e wo1 ⟨rfl, zo1⟩; have co1 := zo1.c0; have dx1 := zo1.c1; have T2 := Lib.hid (rfl : 2 = 2))
    | (go_at_call 15; clear T2; refine (kch (by assumption) [] (by exact fun h => absurd h (by decide)) (by rfl) (by decide) vc0).mono ?_; rintro e wc0 ⟨rfl, zc0⟩; have cc0 := zc0.c0; have dc0 := zc0.c1; have T3 := Lib.hid (rfl : 3 = 3))
    | (go_at_call 15; clear T3; refine (kch (by exact KS.alloc (by assumption) _) [1] (by exact slots_lit (heap_new rfl) rfl) (by rfl) (by decide) vc1).mono ?_; rintro e wc1 ⟨rfl, zc1⟩; have cc1 := zc1.c0; have dc1 := zc1.c1; have T4 := Lib.hid (rfl : 4 = 4))
    | (go_at_call 15; clear T4; refine (kch (by exact KS.alloc (by assumption) _) [1, 2] (by exact slots_lit (heap_new rfl) rfl) (by rfl) (by decide) vc2).mono ?_; rintro e wc2 ⟨rfl, zc2⟩; have cc2 := zc2.c0; have dc2 := zc2.c1; have T5 := Lib.hid (rfl : 5 = 5))
    | (go_at_call 15; clear T5; refine (kch (by assumption) [1, 2, 3, 9] (by exact KS.all (by assumption)) (by rfl) (by decide) vc3).mono ?_; rintro e wc3 ⟨rfl, zc3⟩; have cc3 := zc3.c0; have dc3 := zc3.c1; have T6 := Lib.hid (rfl : 6 = 6))
    | (go_at_call 15; clear T6; refine (kch (by assumption) [1, 2, 3, 9] (by exact KS.all (by assumption)) (by rfl) (by decide) vc4).mono ?_; rintro e wc4 ⟨rfl, zc4⟩; have cc4 := zc4.c0; have dc4 := zc4.c1; have T7 := Lib.hid (rfl : 7 = 7))
    | (go_at_call 15; clear T7; refine (kch (by exact KS.alloc (by assumption) _) [1, 3, 9] (by exact slots_lit (heap_new rfl) rfl) (by rfl) (by decide) vc5).mono ?_; rintro e wc5 ⟨rfl, zc5⟩; have cc5 := zc5.c0; have dc5 := zc5.c1; have T8 := Lib.hid (rfl : 8 = 8))
    | (go_at_call 15; clear T8; refine (kch (by exact KS.alloc (by assumption) _) [1, 3, 9] (by exact slots_lit (heap_new rfl) rfl) (by rfl) (by decide) vc6).mono ?_; rintro e wc6 ⟨rfl, zc6⟩; have cc6 := zc6.c0; have dc6 := zc6.c1; have T9 := Lib.hid (rfl : 9 = 9))
    | (go_at_call 15; clear T9; refine (kch (by exact KS.alloc (by assumption) _) [1] (by exact slots_lit (heap_new rfl) rfl) (by rfl) (by decide) vc7).mono ?_; rintro e wc7 ⟨rfl, zc7⟩; have cc7 := zc7.c0; have dc7 := zc7.c1; have T10 := Lib.hid (rfl : 10 = 10))
    | (go_at_call 17; clear T10; refine (kck (by exact KS.alloc (by assumption) _) [1, 2] (by exact slots_lit (heap_new rfl) rfl) (by rfl) (by decide) vk0).mono ?_; rintro e wk0 ⟨rfl, zk0⟩; have ck0 := zk0.c0; have dk0 := zk0.c1; have T11 := Lib.hid (rfl : 11 = 11))
    | (go_at_call 17; clear T11; refine (kck (by exact KS.alloc (by assumption) _) [1, 3] (by exact slots_lit (heap_new rfl) rfl) (by rfl) (by decide) vk1).mono ?_; rintro e wk1 ⟨rfl, zk1⟩; have ck1 := zk1.c0; have dk1 := zk1.c1; have T12 := Lib.hid (rfl : 12 = 12))
    | (go_at_call 17; clear T12; refine (kck (by exact KS.alloc (by assumption) _) [1] (by exact slots_lit (heap_new rfl) rfl) (by rfl) (by decide) vk2).mono ?_; rintro e wk2 ⟨rfl, zk2⟩; have ck2 := zk2.c0; have dk2 := zk2.c1; have T13 := Lib.hid (rfl : 13 = 13))
    | (go_at_call 17; clear T13; refine (kck (by exact KS.alloc (by assumption) _) [1, 2, 3] (by exact slots_lit (heap_new rfl) rfl) (by rfl) (by decide) vk3).mono ?_; rintro e wk3 ⟨rfl, zk3⟩; have ck3 := zk3.c0; have dk3 := zk3.c1; have T14 := Lib.hid (rfl : 14 = 14))
    | (go_at_call 15; clear T14; refine (kch (by assumption) [] (by exact fun h => absurd h (by decide)) (by rfl) (by decide) vc8).mono ?_; rintro e wc8 ⟨rfl, zc8⟩; have cc8 := zc8.c0; have dc8 := zc8.c1; have T15 := Lib.hid (rfl : 15 = 15))
    | (go_at_call 13; clear T15; refine (klast (KS.alloc (by assumption) _) (ents_lit (heap_new rfl) rfl)).mono ?_; rintro e wl ⟨rfl, zl⟩; have T16 := Lib.hid (rfl : 16 = 16))
    | (go_at_call 13; refine (klast (by exact KS.alloc (by assumption) _) (by exact ents_lit (heap_new rfl) rfl)).mono ?_; rintro e wl ⟨rfl, zl⟩))
  go_ret
  exact ⟨rfl, zl.bel⟩
end Go.Proofs.Yteibleghnadelaa
