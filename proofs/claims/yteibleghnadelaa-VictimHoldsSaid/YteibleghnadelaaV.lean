/-
  What the law's walks hold of the entries, and the contracts at it.
-/
import Derived.Test.YteibleghnadelaaU
import Derived.Deep.RegionHeld3
namespace Go.Proofs.Yteibleghnadelaa
open Go.ChangeShapes Go.WideShapes Go.ChangeAt Go.RowKit
set_option linter.unusedVariables false

/-- The entries, and the block that the law boxed them in. -/
structure Held (w : World) (N : Nat) (s1 : Option Addr) (n1 c1 : Nat) (s2 : Option Addr) (n2 c2 : Nat) (L1 L2 : List (Int × Int)) (W : World) : Prop where
  at0 : w.heap.size = N
  bel : Below N w W
  box : W.heap[N]? = some (.cells #[.slice s1 n1 c1, .slice s2 n2 c2] 24 (0, 0))
  e1 : Ents W s1 L1
  e2 : Ents W s2 L2
section
variable {w W V : World} {N : Nat} {s1 s2 : Option Addr} {n1 n2 c1 c2 : Nat} {L1 L2 : List (Int × Int)}
theorem Held.size (z : Held w N s1 n1 c1 s2 n2 c2 L1 L2 W) : N < W.heap.size := lt_of_heap z.box
theorem Held.step (z : Held w N s1 n1 c1 s2 n2 c2 L1 L2 W) (b : Below W.heap.size W V) : Held w N s1 n1 c1 s2 n2 c2 L1 L2 V :=
  ⟨z.at0, z.bel.trans (b.mono (Nat.le_of_lt z.size)), (b.block N z.size).trans z.box, z.e1.below b (Nat.le_refl _), z.e2.below b (Nat.le_refl _)⟩
theorem Held.drew (z : Held w N s1 n1 c1 s2 n2 c2 L1 L2 W) : Held w N s1 n1 c1 s2 n2 c2 L1 L2 W.drew := z.step (Below.refl _ _).drew
theorem Held.alloc (z : Held w N s1 n1 c1 s2 n2 c2 L1 L2 W) (o : Obj) : Held w N s1 n1 c1 s2 n2 c2 L1 L2 (W.alloc o) := z.step ((Below.refl _ _).alloc (Nat.le_refl _) _)
theorem Held.cellA (z : Held w N s1 n1 c1 s2 n2 c2 L1 L2 W) : W.cell? ⟨N, 0, none⟩ = some (.slice s1 n1 c1) := cell_of z.box 0
theorem Held.cellB (z : Held w N s1 n1 c1 s2 n2 c2 L1 L2 W) : W.cell? ⟨N, 1, none⟩ = some (.slice s2 n2 c2) := cell_of z.box 1
theorem Held.both (z : Held w N s1 n1 c1 s2 n2 c2 L1 L2 W) : Held w N s1 n1 c1 s2 n2 c2 L1 L2 W ∧ W.cell? ⟨N, 0, none⟩ = some (.slice s1 n1 c1) ∧ W.cell? ⟨N, 1, none⟩ = some (.slice s2 n2 c2) := ⟨z, z.cellA, z.cellB⟩
theorem Held.start (hE1 : Ents w s1 L1) (hE2 : Ents w s2 L2) : Held w w.heap.size s1 n1 c1 s2 n2 c2 L1 L2 (w.alloc (.cells #[.slice s1 n1 c1, .slice s2 n2 c2] 24)) :=
  ⟨rfl, (Below.refl _ _).alloc (Nat.le_refl _) _, heap_new rfl, hE1.below ((Below.refl _ _).alloc (Nat.le_refl _) _) (Nat.le_refl _), hE2.below ((Below.refl _ _).alloc (Nat.le_refl _) _) (Nat.le_refl _)⟩
theorem Held.done (z : Held w N s1 n1 c1 s2 n2 c2 L1 L2 W) : Below w.heap.size w W := by rw [z.at0]; exact z.bel
theorem h_few (z : Held w N s1 n1 c1 s2 n2 c2 L1 L2 W) (h1 : n1 ≤ 60) (h2 : n2 ≤ 60) : Calls Try.prog 7 #[.agg #[.slice s1 n1 c1, .slice s2 n2 c2]] W fun e w' => e = .returned (.bool true) ∧ Held w N s1 n1 c1 s2 n2 c2 L1 L2 w' :=
  (few_is W h1 h2).mono fun e w' h => ⟨h.1, z.step h.2⟩
theorem h_fewNot (z : Held w N s1 n1 c1 s2 n2 c2 L1 L2 W) (h : ¬ (n1 ≤ 60 ∧ n2 ≤ 60)) : Calls Try.prog 7 #[.agg #[.slice s1 n1 c1, .slice s2 n2 c2]] W fun e w' => e = .returned (.bool false) ∧ Held w N s1 n1 c1 s2 n2 c2 L1 L2 w' :=
  (few_not W h).mono fun e w' h => ⟨h.1, z.step h.2⟩
theorem h_known (z : Held w N s1 n1 c1 s2 n2 c2 L1 L2 W) : Calls Try.prog 8 #[] W fun e w' => e = .returned (.bool true) ∧ Held w N s1 n1 c1 s2 n2 c2 L1 L2 w' ∧ Below W.heap.size W w' :=
  (known_is W).mono fun e w' h => ⟨h.1, z.step h.2, h.2⟩
theorem h_fair (z : Held w N s1 n1 c1 s2 n2 c2 L1 L2 W) (h1 : L1.length = n1) (h2 : L2.length = n2) (h3 : n1 + n2 ≤ 500) (b : Bool) (hb : b = true ↔ FairL (L1 ++ L2)) : Calls Try.prog 10 #[.slice s1 n1 c1, .slice s2 n2 c2] W fun e w' => e = .returned (.bool b) ∧ Held w N s1 n1 c1 s2 n2 c2 L1 L2 w' :=
  (fair_is (c1 := c1) (c2 := c2) z.e1 z.e2 h1 h2 h3).mono fun e w' h => ⟨h.1.trans (ret_bool (by cases b <;> simp at hb <;> simp [hb])), z.step h.2⟩
theorem h_fairT (z : Held w N s1 n1 c1 s2 n2 c2 L1 L2 W) (h1 : L1.length = n1) (h2 : L2.length = n2) (h3 : n1 + n2 ≤ 500) (hf : FairL (L1 ++ L2)) : Calls Try.prog 10 #[.slice s1 n1 c1, .slice s2 n2 c2] W fun e w' => e = .returned (.bool true) ∧ Held w N s1 n1 c1 s2 n2 c2 L1 L2 w' := h_fair z h1 h2 h3 true ⟨fun _ => hf, fun _ => rfl⟩
theorem h_fairF (z : Held w N s1 n1 c1 s2 n2 c2 L1 L2 W) (h1 : L1.length = n1) (h2 : L2.length = n2) (h3 : n1 + n2 ≤ 500) (hf : ¬ FairL (L1 ++ L2)) : Calls Try.prog 10 #[.slice s1 n1 c1, .slice s2 n2 c2] W fun e w' => e = .returned (.bool false) ∧ Held w N s1 n1 c1 s2 n2 c2 L1 L2 w' := h_fair z h1 h2 h3 false ⟨fun q => (nomatch q), fun q => absurd q hf⟩
theorem h_chooses {s3 : Option Addr} {n3 c3 : Nat} {k count bytes er : Int} {T : List Int} (z : Held w N s1 n1 c1 s2 n2 c2 L1 L2 W) (h1 : L1.length = n1) (h2 : L2.length = n2) (h3 : n1 + n2 ≤ 500) (hT : Slots W s3 T) (h4 : T.length = n3) (h5 : n3 ≤ 1000) (h : resC k count bytes (L1 ++ L2) = T ∧ errC count bytes (L1 ++ L2) = er) :
    Calls Try.prog 15 #[.agg #[.slice s1 n1 c1, .slice s2 n2 c2], .int .u32 k, .int .i64 count, .int .i64 bytes, .slice s3 n3 c3, .int .i64 er] W fun e w' => e = .returned (.bool true) ∧ Held w N s1 n1 c1 s2 n2 c2 L1 L2 w' := by
  refine (chooses_is (c1 := c1) (c2 := c2) (c3 := c3) (k := k) (count := count) (bytes := bytes) (er := er) z.e1 z.e2 hT h1 h2 h3 h4 h5).mono ?_
  rintro e w' ⟨rfl, b⟩
  exact ⟨by rw [decide_eq_true h], z.step b⟩
theorem h_orders {s3 : Option Addr} {n3 c3 : Nat} {k er : Int} {T : List (Int × Int)} (z : Held w N s1 n1 c1 s2 n2 c2 L1 L2 W) (h1 : L1.length = n1) (h2 : L2.length = n2) (h3 : n1 + n2 ≤ 500) (hT : Ents W s3 T) (h4 : T.length = n3) (h5 : n3 ≤ 1000) (h : resO k (L1 ++ L2) = T ∧ errO (L1 ++ L2) = er) :
    Calls Try.prog 13 #[.agg #[.slice s1 n1 c1, .slice s2 n2 c2], .int .u32 k, .slice s3 n3 c3, .int .i64 er] W fun e w' => e = .returned (.bool true) ∧ Held w N s1 n1 c1 s2 n2 c2 L1 L2 w' := by
  refine (orders_is (c1 := c1) (c2 := c2) (c3 := c3) (k := k) (er := er) z.e1 z.e2 hT h1 h2 h3 h4 h5).mono ?_
  rintro e w' ⟨rfl, b⟩
  exact ⟨by rw [decide_eq_true h], z.step b⟩
theorem h_checks {s3 : Option Addr} {n3 c3 : Nat} {k count bytes wn er : Int} {T : List Int} (z : Held w N s1 n1 c1 s2 n2 c2 L1 L2 W) (h1 : L1.length = n1) (h2 : L2.length = n2) (h3 : n1 + n2 ≤ 500) (hT : Slots W s3 T) (h4 : T.length = n3) (h5 : n3 ≤ 500) (h : resK k count bytes (L1 ++ L2) T = wn ∧ errC count bytes (L1 ++ L2) = er) :
    Calls Try.prog 17 #[.agg #[.slice s1 n1 c1, .slice s2 n2 c2], .int .u32 k, .int .i64 count, .int .i64 bytes, .slice s3 n3 c3, .int .i64 wn, .int .i64 er] W fun e w' => e = .returned (.bool true) ∧ Held w N s1 n1 c1 s2 n2 c2 L1 L2 w' ∧ Below W.heap.size W w' := by
  refine (checks_is (c1 := c1) (c2 := c2) (c3 := c3) (k := k) (count := count) (bytes := bytes) (wn := wn) (er := er) z.e1 z.e2 hT h1 h2 h3 h4 h5).mono ?_
  rintro e w' ⟨rfl, b⟩
  exact ⟨by rw [decide_eq_true h], z.step b, b⟩
theorem h_ref {k count bytes : Int} {V : List Int} {n : Nat} (z : Held w N s1 n1 c1 s2 n2 c2 L1 L2 W) (h1 : L1.length = n1) (h2 : L2.length = n2) (h3 : n1 + n2 ≤ 500) (hf : ∀ x ∈ L1 ++ L2, FairE x) (hV : victimsL (L1 ++ L2) k count bytes = V) (hn : V.length = n) :
    Calls Try.prog 16 #[.slice s1 n1 c1, .slice s2 n2 c2, .int .u32 k, .int .i64 count, .int .i64 bytes] W fun e w' => ∃ A c, e = .returned (.slice A n c) ∧ Slots w' A V ∧ Held w N s1 n1 c1 s2 n2 c2 L1 L2 w' ∧ Below W.heap.size W w' ∧ n ≤ c := by
  refine (chooseR_is (c1 := c1) (c2 := c2) (k := k) (count := count) (bytes := bytes) z.e1 z.e2 h1 h2 h3 hf).mono ?_
  rintro e w' ⟨A, n', c, q1, rfl, q3, q4⟩
  rw [hV, hn] at q1
  subst q1
  rw [hV] at q3
  refine ⟨A, c, rfl, (Slots.of_owns q3).2, z.step q4, q4, ?_⟩
  obtain ⟨_, ⟨q, _⟩ | ⟨_, _, _, q, _, _, q5, _⟩⟩ := q3
  · simp at q; omega
  · simp at q; omega
theorem h_orderR {k : Int} {V : List (Int × Int)} {n : Nat} (z : Held w N s1 n1 c1 s2 n2 c2 L1 L2 W) (h1 : L1.length = n1) (h2 : L2.length = n2) (h3 : n1 + n2 ≤ 500) (hV : orderL k (L1 ++ L2) = V) (hn : V.length = n) :
    Calls Try.prog 14 #[.slice s1 n1 c1, .slice s2 n2 c2, .int .u32 k] W fun e w' => ∃ A c, e = .returned (.slice A n c) ∧ Ents w' A V ∧ Held w N s1 n1 c1 s2 n2 c2 L1 L2 w' := by
  refine (orderR_is (c1 := c1) (c2 := c2) (k := k) z.e1 z.e2 h1 h2 h3).mono ?_
  rintro e w' ⟨A, n', c, q1, rfl, q3, q4⟩
  rw [hV, hn] at q1
  subst q1
  rw [hV] at q3
  exact ⟨A, c, rfl, (Ents.of_owns q3).2, z.step q4⟩
end
theorem ok_parts {count bytes : Int} {L : List (Int × Int)} (h : okC count bytes L = true) : FairL L ∧ 0 ≤ count ∧ 0 ≤ bytes := by unfold okC at h; exact of_decide_eq_true h
theorem not_ok {count bytes : Int} {L : List (Int × Int)} (h : ¬ okC count bytes L = true) : ¬ FairL L ∨ (FairL L ∧ count < 0) ∨ (FairL L ∧ 0 ≤ count ∧ bytes < 0) := by
  have h2 : ¬ (FairL L ∧ 0 ≤ count ∧ 0 ≤ bytes) := fun q => h (by unfold okC; exact decide_eq_true q)
  by_cases hf : FairL L
  · by_cases hc : count < 0
    · exact .inr (.inl ⟨hf, hc⟩)
    · exact .inr (.inr ⟨hf, by omega, by have : ¬ (0 ≤ bytes) := fun q => h2 ⟨hf, by omega, q⟩; omega⟩)
  · exact .inl hf
theorem ok_res {k count bytes : Int} {L : List (Int × Int)} (h : okC count bytes L = true) : resC k count bytes L = victimsL L k count bytes ∧ errC count bytes L = 0 := by
  unfold resC errC; rw [if_pos h, if_pos h]; exact ⟨rfl, rfl⟩
theorem not_res {k count bytes : Int} {L : List (Int × Int)} (h : ¬ okC count bytes L = true) : resC k count bytes L = [] ∧ errC count bytes L = 2 := by
  unfold resC errC; rw [if_neg h, if_neg h]; exact ⟨rfl, rfl⟩
end Go.Proofs.Yteibleghnadelaa
