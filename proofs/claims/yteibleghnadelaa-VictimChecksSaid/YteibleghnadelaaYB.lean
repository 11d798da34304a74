/-
  The walk of VictimChecks.
-/
import Derived.Test.YteibleghnadelaaX
namespace Go.Proofs.Yteibleghnadelaa
open Go.ChangeShapes Go.WideShapes Go.ChangeAt Go.RowKit
set_option linter.unusedVariables false

theorem u8_bounds' {x : Int} (h : (Lit.int .u8 x).wf = true) : 0 ≤ x ∧ x ≤ 255 := by
  have := bounds_u8 h; omega
theorem Slots.take' {w : World} {s : Option Addr} {L : List Int} (h : Slots w s L) (k : Nat) : Slots w s (L.take k) := fun h0 => by
  rw [List.length_take] at h0
  obtain ⟨b, off, e, hb, hc⟩ := h (by omega)
  refine ⟨b, off, e, hb, fun i x hx => hc i x ?_⟩
  have hi : i < (L.take k).length := (List.getElem?_eq_some_iff.1 hx).1
  rw [List.length_take] at hi
  rwa [List.getElem?_take_of_lt (by omega)] at hx
/-- The entries, the victims, and a list. -/
structure HeldK (w : World) (N : Nat) (s1 : Option Addr) (n1 c1 : Nat) (s2 : Option Addr) (n2 c2 : Nat) (L1 L2 : List (Int × Int)) (A : Option Addr) (V : List Int) (B : Option Addr) (T : List Int) (W : World) : Prop where
  held : Held w N s1 n1 c1 s2 n2 c2 L1 L2 W
  vic : Slots W A V
  lst : Slots W B T
section
variable {w W U : World} {N : Nat} {s1 s2 A B : Option Addr} {n1 n2 c1 c2 n c m d : Nat} {L1 L2 : List (Int × Int)} {V T : List Int} {k count bytes q : Int}
theorem HeldK.step (z : HeldK w N s1 n1 c1 s2 n2 c2 L1 L2 A V B T W) (b : Below W.heap.size W U) : HeldK w N s1 n1 c1 s2 n2 c2 L1 L2 A V B T U := ⟨z.held.step b, z.vic.below b (Nat.le_refl _), z.lst.below b (Nat.le_refl _)⟩
theorem HeldK.drew (z : HeldK w N s1 n1 c1 s2 n2 c2 L1 L2 A V B T W) : HeldK w N s1 n1 c1 s2 n2 c2 L1 L2 A V B T W.drew := z.step (Below.refl _ _).drew
theorem HeldK.both (z : HeldK w N s1 n1 c1 s2 n2 c2 L1 L2 A V B T W) : HeldK w N s1 n1 c1 s2 n2 c2 L1 L2 A V B T W ∧ W.cell? ⟨N, 0, none⟩ = some (.slice s1 n1 c1) ∧ W.cell? ⟨N, 1, none⟩ = some (.slice s2 n2 c2) := ⟨z, z.held.cellA, z.held.cellB⟩
theorem HeldK.done (z : HeldK w N s1 n1 c1 s2 n2 c2 L1 L2 A V B T W) : Below w.heap.size w W := z.held.done
theorem hk_first (z : HeldK w N s1 n1 c1 s2 n2 c2 L1 L2 A V B T W) (hn : V.length = n) (hm : T.length = m) (h5 : n ≤ 500) (h6 : m ≤ 500) (hq : firstL V T 0 = q) :
    Calls Try.prog 18 #[.slice A n c, .slice B m d] W fun e w' => e = .returned (.int .i64 q) ∧ HeldK w N s1 n1 c1 s2 n2 c2 L1 L2 A V B T w' :=
  (first_is (c1 := c) (c2 := d) z.vic z.lst hn hm (by omega) (by omega)).mono fun e w' h => ⟨by rw [h.1, hq], z.step h.2⟩
theorem hk_checksT (z : HeldK w N s1 n1 c1 s2 n2 c2 L1 L2 A V B T W) (h1 : L1.length = n1) (h2 : L2.length = n2) (h3 : n1 + n2 ≤ 500) (hm : T.length = m) (h6 : m ≤ 500) (h : resK k count bytes (L1 ++ L2) T = q ∧ errC count bytes (L1 ++ L2) = 0) :
    Calls Try.prog 17 #[.agg #[.slice s1 n1 c1, .slice s2 n2 c2], .int .u32 k, .int .i64 count, .int .i64 bytes, .slice B m d, .int .i64 q, .int .i64 0] W fun e w' => e = .returned (.bool true) ∧ HeldK w N s1 n1 c1 s2 n2 c2 L1 L2 A V B T w' :=
  (h_checks (c3 := d) z.held h1 h2 h3 z.lst hm h6 h).mono fun e w' h => ⟨h.1, z.step h.2.2⟩
theorem hk_checksV {j : Nat} (z : HeldK w N s1 n1 c1 s2 n2 c2 L1 L2 A V B T W) (h1 : L1.length = n1) (h2 : L2.length = n2) (h3 : n1 + n2 ≤ 500) (hn : V.length = n) (h5 : n ≤ 500) (hj : j ≤ n) (h : resK k count bytes (L1 ++ L2) (V.take j) = q ∧ errC count bytes (L1 ++ L2) = 0) :
    Calls Try.prog 17 #[.agg #[.slice s1 n1 c1, .slice s2 n2 c2], .int .u32 k, .int .i64 count, .int .i64 bytes, .slice A j c, .int .i64 q, .int .i64 0] W fun e w' => e = .returned (.bool true) ∧ HeldK w N s1 n1 c1 s2 n2 c2 L1 L2 A V B T w' :=
  (h_checks (c3 := c) z.held h1 h2 h3 (z.vic.take' j) (by rw [List.length_take, hn]; omega) (by omega) h).mono fun e w' h => ⟨h.1, z.step h.2.2⟩
theorem hk_few (z : HeldK w N s1 n1 c1 s2 n2 c2 L1 L2 A V B T W) (h1 : n1 ≤ 60) (h2 : n2 ≤ 60) : Calls Try.prog 7 #[.agg #[.slice s1 n1 c1, .slice s2 n2 c2]] W fun e w' => e = .returned (.bool true) ∧ HeldK w N s1 n1 c1 s2 n2 c2 L1 L2 A V B T w' :=
  (few_is W h1 h2).mono fun e w' h => ⟨h.1, z.step h.2⟩
theorem hk_fair (z : HeldK w N s1 n1 c1 s2 n2 c2 L1 L2 A V B T W) (h1 : L1.length = n1) (h2 : L2.length = n2) (h3 : n1 + n2 ≤ 500) (b : Bool) (hb : b = true ↔ FairL (L1 ++ L2)) : Calls Try.prog 10 #[.slice s1 n1 c1, .slice s2 n2 c2] W fun e w' => e = .returned (.bool b) ∧ HeldK w N s1 n1 c1 s2 n2 c2 L1 L2 A V B T w' :=
  (fair_is (c1 := c1) (c2 := c2) z.held.e1 z.held.e2 h1 h2 h3).mono fun e w' h => ⟨h.1.trans (ret_bool (by cases b <;> simp at hb <;> simp [hb])), z.step h.2⟩
theorem hk_fairT (z : HeldK w N s1 n1 c1 s2 n2 c2 L1 L2 A V B T W) (h1 : L1.length = n1) (h2 : L2.length = n2) (h3 : n1 + n2 ≤ 500) (hf : FairL (L1 ++ L2)) : Calls Try.prog 10 #[.slice s1 n1 c1, .slice s2 n2 c2] W fun e w' => e = .returned (.bool true) ∧ HeldK w N s1 n1 c1 s2 n2 c2 L1 L2 A V B T w' := hk_fair z h1 h2 h3 true ⟨fun _ => hf, fun _ => rfl⟩
theorem hk_fairF (z : HeldK w N s1 n1 c1 s2 n2 c2 L1 L2 A V B T W) (h1 : L1.length = n1) (h2 : L2.length = n2) (h3 : n1 + n2 ≤ 500) (hf : ¬ FairL (L1 ++ L2)) : Calls Try.prog 10 #[.slice s1 n1 c1, .slice s2 n2 c2] W fun e w' => e = .returned (.bool false) ∧ HeldK w N s1 n1 c1 s2 n2 c2 L1 L2 A V B T w' := hk_fair z h1 h2 h3 false ⟨fun q => (nomatch q), fun q => absurd q hf⟩
theorem hk_ref {U0 : List Int} (z : HeldK w N s1 n1 c1 s2 n2 c2 L1 L2 A U0 B T W) (h1 : L1.length = n1) (h2 : L2.length = n2) (h3 : n1 + n2 ≤ 500) (hf : ∀ x ∈ L1 ++ L2, FairE x) (hV : victimsL (L1 ++ L2) k count bytes = V) (hn : V.length = n) :
    Calls Try.prog 16 #[.slice s1 n1 c1, .slice s2 n2 c2, .int .u32 k, .int .i64 count, .int .i64 bytes] W fun e w' => ∃ A c, e = .returned (.slice A n c) ∧ n ≤ c ∧ HeldK w N s1 n1 c1 s2 n2 c2 L1 L2 A V B T w' :=
  (h_ref z.held h1 h2 h3 hf hV hn).mono fun e w' ⟨A, c, q1, q2, q3, q4, q5⟩ => ⟨A, c, q1, q5, q3, q2, z.lst.below q4 (Nat.le_refl _)⟩
theorem hk_known (z : HeldK w N s1 n1 c1 s2 n2 c2 L1 L2 A V B T W) : Calls Try.prog 8 #[] W fun e w' => e = .returned (.bool true) ∧ HeldK w N s1 n1 c1 s2 n2 c2 L1 L2 A V B T w' :=
  (known_is W).mono fun e w' h => ⟨h.1, z.step h.2⟩
theorem hk_checks2 (z : HeldK w N s1 n1 c1 s2 n2 c2 L1 L2 A V B T W) (h1 : L1.length = n1) (h2 : L2.length = n2) (h3 : n1 + n2 ≤ 500) (hm : T.length = m) (h6 : m ≤ 500) (h : resK k count bytes (L1 ++ L2) T = 0 ∧ errC count bytes (L1 ++ L2) = 2) :
    Calls Try.prog 17 #[.agg #[.slice s1 n1 c1, .slice s2 n2 c2], .int .u32 k, .int .i64 count, .int .i64 bytes, .slice B m d, .int .i64 0, .int .i64 2] W fun e w' => e = .returned (.bool true) ∧ HeldK w N s1 n1 c1 s2 n2 c2 L1 L2 A V B T w' :=
  (h_checks (c3 := d) z.held h1 h2 h3 z.lst hm h6 h).mono fun e w' h => ⟨h.1, z.step h.2.2⟩
end
theorem slots_own_cell {w : World} {B g n c i : Nat} {F : List Int} {x : Int} (own : w.ownsRow B 25 1 (.slice (some ⟨g, 0, none⟩) n c) n (slotsL F)) (hx : F[i]? = some x) : w.cell? ⟨g, i, none⟩ = some (.int .u32 x) := by
  obtain ⟨b, off, e, _, q1⟩ := (Slots.of_owns own).2.get hx
  obtain ⟨rfl, rfl⟩ : g = b ∧ 0 = off := by simpa using e
  rw [Nat.zero_add] at q1
  exact q1
theorem slots_own_frozen {w : World} {B g n c : Nat} {F : List Value} (own : w.ownsRow B 25 1 (.slice (some ⟨g, 0, none⟩) n c) n F) (j : Nat) : w.frozen? ⟨g, j, none⟩ = false := by
  obtain ⟨hl, ⟨h, h0⟩ | ⟨g', c2, cur, h, hb, hh, hn, hmx, hs, ht⟩⟩ := own
  · cases h
  obtain ⟨rfl, rfl⟩ : g = g' ∧ c = c2 := by simpa using h
  exact frozen_of hh j
theorem slots_own_some {w : World} {B n c : Nat} {A : Option Addr} {xs : List Value} (own : w.ownsRow B 25 1 (.slice A n c) n xs) (h : 0 < n) : ∃ g, A = some ⟨g, 0, none⟩ ∧ B ≤ g := by
  obtain ⟨hl, ⟨q, q0⟩ | ⟨g, c2, cur, q, hb, _⟩⟩ := own
  · omega
  · exact ⟨g, by simpa using congrArg (fun v => match v with | .slice a _ _ => a | _ => none) q, hb⟩
theorem slots_own_set {w : World} {B g n c i : Nat} {F : List Int} (own : w.ownsRow B 25 1 (.slice (some ⟨g, 0, none⟩) n c) n (slotsL F)) (x : Int) :
    (w.setCell ⟨g, i, none⟩ (.int .u32 x)).ownsRow B 25 1 (.slice (some ⟨g, 0, none⟩) n c) n (slotsL (F.set i x)) := by
  obtain ⟨hl, ⟨h, h0⟩ | ⟨g', c2, cur, h, hb, hh, hn, hmx, hs, ht⟩⟩ := own
  · cases h
  obtain ⟨rfl, rfl⟩ : g = g' ∧ c = c2 := by simpa using h
  refine ⟨by unfold slotsL at hl ⊢; simpa using hl, .inr ⟨g, c, _, rfl, hb, heap_set hh _, hn, hmx, by simpa using hs, ?_⟩⟩
  unfold slotsL at ht ⊢
  rw [List.map_set, ← ht]
  simp only [Array.toList_setIfInBounds, List.take_set, Nat.mul_one]
theorem below_put {B : Nat} {a w : World} (h : Below B a w) {p i : Nat} (h1 : B ≤ p) {u : Value} : Below B a (w.setCell ⟨p, i, none⟩ u) :=
  ⟨h.os, h.tape, h.output, by rw [size_set]; exact h.size, fun j hj => (Below.heap_setCell _ _ u j (by simp; omega)).trans (h.block j hj)⟩
theorem below_grown {w w' : World} {row : Option Nat} (g : w.grownBy w' row) (h : row = none) : Below w.heap.size w w' := Below.grown (Below.refl _ _) g (by rw [h]; intro i q; cases q) (Nat.le_refl _)
theorem resK_is {k count bytes : Int} {L : List (Int × Int)} {V T : List Int} (hok : okC count bytes L = true) (hV : victimsL L k count bytes = V) : resK k count bytes L T = firstL V T 0 ∧ errC count bytes L = 0 := by
  obtain ⟨r1, r2⟩ := ok_res (k := k) hok
  unfold resK; rw [if_pos hok, r1, hV]; exact ⟨rfl, r2⟩
theorem not_resK {k count bytes : Int} {L : List (Int × Int)} {T : List Int} (h : ¬ okC count bytes L = true) : resK k count bytes L T = 0 ∧ errC count bytes L = 2 := by
  unfold resK; rw [if_neg h]; exact ⟨rfl, (not_res (k := k) h).2⟩
set_option maxHeartbeats 8000000 in
theorem victimChecks_walk (s1 : Option Addr) (n1 c1 : Nat) (s2 : Option Addr) (n2 c2 : Nat) (L1 L2 : List (Int × Int)) (k count bytes : Int) (s3 : Option Addr) (n3 c3 : Nat) (T : List Int) (at_ other : Int) (w : World) (h1 : L1.length = n1) (h2 : L2.length = n2) (hE1 : Ents w s1 L1) (hE2 : Ents w s2 L2) (h4 : T.length = n3) (hE3 : Slots w s3 T) (w4 : (Lit.int .u8 at_).wf = true) :
    Calls Try.prog 5 #[.agg #[.slice s1 n1 c1, .slice s2 n2 c2], .int .u32 k, .int .i64 count, .int .i64 bytes, .slice s3 n3 c3, .int .u8 at_, .int .u32 other] w fun e w' => e = .returned (.bool true) ∧ Below w.heap.size w w' := by
  have z0 : HeldK w w.heap.size s1 n1 c1 s2 n2 c2 L1 L2 none [] s3 T (w.alloc (.cells #[.slice s1 n1 c1, .slice s2 n2 c2] 24)) :=
    ⟨Held.start hE1 hE2, fun h => absurd h (by decide), hE3.below ((Below.refl _ _).alloc (Nat.le_refl _) _) (Nat.le_refl _)⟩
  have hat := u8_bounds' w4
  clear hE1 hE2 hE3 w4
  by_cases hfew : n1 ≤ 60 ∧ n2 ≤ 60
  · obtain ⟨f1, f2⟩ := hfew
    have h3 : n1 + n2 ≤ 500 := by omega
    have H1 := Lib.hid h1
    have H2 := Lib.hid h2
    have H4 := Lib.hid h4
    clear h1 h2 h4
    by_cases hl : n3 ≤ 100
    · have hl' : ¬ ((100 : Int) < (n3 : Int)) := by omega
      by_cases hok : okC count bytes (L1 ++ L2) = true
      · obtain ⟨hf, hc, hb⟩ := ok_parts hok
        have hc' : ¬ (count < 0) := by omega
        have hb' : ¬ (bytes < 0) := by omega
        have Hf := Lib.hid hf
        have Hok := Lib.hid hok
        obtain ⟨V, hV⟩ : ∃ V, victimsL (L1 ++ L2) k count bytes = V := ⟨_, rfl⟩
        obtain ⟨n, hn⟩ : ∃ n, V.length = n := ⟨_, rfl⟩
        obtain ⟨q1, hq1⟩ : ∃ q, firstL V T 0 = q := ⟨_, rfl⟩
        have hn5 : n ≤ 500 := by rw [← hn, ← hV, victimsL_length]; exact Nat.le_trans (many_le _ _ _ _) (Nat.le_trans (orderL_length _ _) (by rw [List.length_append, H1.out, H2.out]; exact h3))
        have HV := Lib.hid hV
        have Hn := Lib.hid hn
        have HQ1 := Lib.hid hq1
        have R1 := Lib.hid (show resK k count bytes (L1 ++ L2) T = q1 ∧ errC count bytes (L1 ++ L2) = 0 from ⟨(resK_is hok hV).1.trans hq1, (resK_is (T := T) hok hV).2⟩)
        have R2 := Lib.hid (show resK k count bytes (L1 ++ L2) (V.take n) = -1 ∧ errC count bytes (L1 ++ L2) = 0 from ⟨(resK_is hok hV).1.trans (by rw [List.take_of_length_le (by omega)]; exact firstL_same V 0), (resK_is (T := T) hok hV).2⟩)
        clear hok hf hV hn hq1
        go_enter Try.func5, Try.ntmps5
        go_upto_region 1 with fail
        refine wp_seen _ z0 ?_
        clear z0
        rintro w0 z
        have m1 := z.held.cellA
        have m2 := z.held.cellB
        generalize w.heap.size = N at *
        go_upto_region 6 with (first | (go_at_call 7; refine (hk_few (by assumption) f1 f2).mono ?_; rintro e w1 ⟨rfl, z1⟩; have m3 := z1.held.cellA; have m4 := z1.held.cellB) | (go_at_call 10; refine (hk_fairT (by assumption) H1.out H2.out h3 Hf.out).mono ?_; rintro e w2 ⟨rfl, z2⟩; have m5 := z2.held.cellA; have m6 := z2.held.cellB) | (go_at_call 16; refine (hk_ref (by assumption) H1.out H2.out h3 Hf.out.1 HV.out Hn.out).mono ?_; rintro e w3 ⟨A, c, rfl, hnc, z3⟩))
        clear z z1 z2 m1 m2 m3 m4 m5 m6
        have T0 := Lib.hid (rfl : 0 = 0)
        go_region_held3 (fun W => HeldK w N s1 n1 c1 s2 n2 c2 L1 L2 A V s3 T W ∧ W.cell? ⟨N, 0, none⟩ = some (.slice s1 n1 c1) ∧ W.cell? ⟨N, 1, none⟩ = some (.slice s2 n2 c2)) (first | assumption | exact HeldK.both (by assumption) | exact z3.drew.both) (first | (go_at_call 18; refine (hk_first (by first | assumption | exact z3.drew) Hn.out H4.out hn5 (Nat.le_trans hl (by decide)) HQ1.out).mono ?_; rintro e w4 ⟨rfl, z4⟩) | (go_at_call 17; clear T0; refine (hk_checksT (by assumption) H1.out H2.out h3 H4.out (Nat.le_trans hl (by decide)) R1.out).mono ?_; rintro e w5 ⟨rfl, z5⟩) | (go_at_call 17; refine (hk_checksV (by assumption) H1.out H2.out h3 Hn.out hn5 (Nat.le_refl n) R2.out).mono ?_; rintro e w6 ⟨rfl, z6⟩))
        all_goals (
          clear z3 z4 z5
          rcases Nat.eq_zero_or_pos n with h0 | h0
          · obtain rfl : n = 0 := h0
            have z66 := z6.held
            go_wp2_with (first | (go_at_call 8; refine (h_known (by assumption)).mono ?_; rintro e w7 ⟨rfl, z7, b7⟩))
            go_ret
            exact ⟨rfl, z7.done⟩
          · have h00 : ¬ (n : Int) = 0 := by omega
            obtain ⟨j, hj, hjn⟩ : ∃ j : Nat, at_ % (n : Int) = (j : Nat) ∧ j < n :=
              ⟨(at_ % (n : Int)).toNat, by rw [Int.toNat_of_nonneg (Int.emod_nonneg _ h00)], by have := Int.emod_nonneg at_ h00; have := Int.emod_lt_of_pos at_ (show (0 : Int) < n by omega); omega⟩
            obtain ⟨v2, w7, r2, o2, g2, e2⟩ := app_slots (c := c) (L := []) (World.ownsRow_nil _ _ _ _) Hn.out z6.vic (Nat.le_refl _) (by omega) 39
            obtain ⟨A2, d, rfl⟩ := own_shape o2
            rw [Nat.zero_add, List.nil_append] at o2
            rw [Nat.zero_add] at r2
            obtain ⟨g, rfl, hg⟩ := slots_own_some o2 h0
            obtain ⟨x, hx⟩ : ∃ x, V[j]? = some x := ⟨_, List.getElem?_eq_getElem (by rw [Hn.out]; exact hjn)⟩
            have p1 := slots_own_cell o2 hx
            have p2 := slots_own_frozen o2 j
            have b7 := below_grown g2 rfl
            have z8 : HeldK w N s1 n1 c1 s2 n2 c2 L1 L2 A V (some ⟨g, 0, none⟩) (V.set j other) (w7.setCell ⟨g, j, none⟩ (.int .u32 other)) := by
              have b8 := below_put b7 (i := j) hg (u := .int .u32 other)
              exact ⟨z6.held.step b8, z6.vic.below b8 (Nat.le_refl _), (Slots.of_owns (slots_own_set o2 other)).2⟩
            have Hx := Lib.hid hx
            obtain ⟨q2, hq2⟩ : ∃ q, firstL V (V.set j other) 0 = q := ⟨_, rfl⟩
            have HQ2 := Lib.hid hq2
            have Hm2 := Lib.hid (show (V.set j other).length = n by rw [List.length_set]; exact Hn.out)
            have R3 := Lib.hid (show resK k count bytes (L1 ++ L2) (V.set j other) = q2 ∧ errC count bytes (L1 ++ L2) = 0 from ⟨(resK_is Hok.out HV.out).1.trans hq2, (resK_is (T := T) Hok.out HV.out).2⟩)
            have R4 := Lib.hid (show resK k count bytes (L1 ++ L2) (V.take j) = ((j : Nat) : Int) ∧ errC count bytes (L1 ++ L2) = 0 from ⟨(resK_is Hok.out HV.out).1.trans ((firstL_take V j 0 (by rw [Hn.out]; exact hjn)).trans (Int.zero_add _)), (resK_is (T := T) Hok.out HV.out).2⟩)
            have hjc : j ≤ c := by omega
            have hjn' : j ≤ n := by omega
            clear o2 g2 e2 hx hq2 z6 R1 R2 HQ1
            go_upto_region 12 with (at_builtin; refine Lib.wpList_append_run _ rfl _ _ _ _ rfl _ _ rfl rfl _ _ r2 ?_)
            go_upto_region 13 with fail
            refine wp_seen _ z8 ?_
            clear z8 p1 p2 r2 b7
            rintro w9 z9
            obtain ⟨_, m1, m2⟩ := z9.both
            have T0 := Lib.hid (rfl : 0 = 0)
            generalize V.set j other = U at *
            go_region_held3 (fun W => HeldK w N s1 n1 c1 s2 n2 c2 L1 L2 A V (some ⟨g, 0, none⟩) U W ∧ W.cell? ⟨N, 0, none⟩ = some (.slice s1 n1 c1) ∧ W.cell? ⟨N, 1, none⟩ = some (.slice s2 n2 c2)) (first | assumption | exact HeldK.both (by assumption) | exact z9.drew.both) (first | (go_at_call 18; refine (hk_first (by first | assumption | exact z9.drew) Hn.out Hm2.out hn5 hn5 HQ2.out).mono ?_; rintro e w4 ⟨rfl, z4⟩) | (go_at_call 17; clear T0; refine (hk_checksT (by assumption) H1.out H2.out h3 Hm2.out hn5 R3.out).mono ?_; rintro e w5 ⟨rfl, z5⟩) | (go_at_call 17; refine (hk_checksV (by assumption) H1.out H2.out h3 Hn.out hn5 hjn' R4.out).mono ?_; rintro e w6 ⟨rfl, z6⟩) | (go_at_call 8; refine (hk_known (by assumption)).mono ?_; rintro e w8 ⟨rfl, z8⟩))
            all_goals go_wp2_with fail
            all_goals go_ret
            all_goals exact ⟨rfl, HeldK.done (by assumption)⟩)
      · have HR := Lib.hid (not_resK (k := k) (T := T) hok)
        rcases not_ok hok with hf | ⟨hf, hc⟩ | ⟨hf, hc, hb⟩
        · have Hf := Lib.hid hf
          clear hok hf
          go_enter Try.func5, Try.ntmps5
          go_upto_region 1 with fail
          refine wp_seen _ z0 ?_
          clear z0
          rintro w0 z
          have m1 := z.held.cellA
          have m2 := z.held.cellB
          generalize w.heap.size = N at *
          go_wp2_with (first | (go_at_call 7; refine (hk_few (by assumption) f1 f2).mono ?_; rintro e w1 ⟨rfl, z1⟩; have m3 := z1.held.cellA; have m4 := z1.held.cellB) | (go_at_call 10; refine (hk_fairF (by assumption) H1.out H2.out h3 Hf.out).mono ?_; rintro e w2 ⟨rfl, z2⟩; have m5 := z2.held.cellA; have m6 := z2.held.cellB) | (go_at_call 17; refine (hk_checks2 (by assumption) H1.out H2.out h3 H4.out (Nat.le_trans hl (by decide)) HR.out).mono ?_; rintro e w4 ⟨rfl, z4⟩; have z44 := z4.held) | (go_at_call 8; refine (h_known (by assumption)).mono ?_; rintro e w5 ⟨rfl, z5, b5⟩))
          go_ret
          exact ⟨rfl, z5.done⟩
        · have Hf := Lib.hid hf
          clear hok hf
          go_enter Try.func5, Try.ntmps5
          go_upto_region 1 with fail
          refine wp_seen _ z0 ?_
          clear z0
          rintro w0 z
          have m1 := z.held.cellA
          have m2 := z.held.cellB
          generalize w.heap.size = N at *
          go_wp2_with (first | (go_at_call 7; refine (hk_few (by assumption) f1 f2).mono ?_; rintro e w1 ⟨rfl, z1⟩; have m3 := z1.held.cellA; have m4 := z1.held.cellB) | (go_at_call 10; refine (hk_fairT (by assumption) H1.out H2.out h3 Hf.out).mono ?_; rintro e w2 ⟨rfl, z2⟩; have m5 := z2.held.cellA; have m6 := z2.held.cellB) | (go_at_call 17; refine (hk_checks2 (by assumption) H1.out H2.out h3 H4.out (Nat.le_trans hl (by decide)) HR.out).mono ?_; rintro e w4 ⟨rfl, z4⟩; have z44 := z4.held) | (go_at_call 8; refine (h_known (by assumption)).mono ?_; rintro e w5 ⟨rfl, z5, b5⟩))
          go_ret
          exact ⟨rfl, z5.done⟩
        · have Hf := Lib.hid hf
          have hc' : ¬ (count < 0) := by omega
          clear hok hf
          go_enter Try.func5, Try.ntmps5
          go_upto_region 1 with fail
          refine wp_seen _ z0 ?_
          clear z0
          rintro w0 z
          have m1 := z.held.cellA
          have m2 := z.held.cellB
          generalize w.heap.size = N at *
          go_wp2_with (first | (go_at_call 7; refine (hk_few (by assumption) f1 f2).mono ?_; rintro e w1 ⟨rfl, z1⟩; have m3 := z1.held.cellA; have m4 := z1.held.cellB) | (go_at_call 10; refine (hk_fairT (by assumption) H1.out H2.out h3 Hf.out).mono ?_; rintro e w2 ⟨rfl, z2⟩; have m5 := z2.held.cellA; have m6 := z2.held.cellB) | (go_at_call 17; refine (hk_checks2 (by assumption) H1.out H2.out h3 H4.out (Nat.le_trans hl (by decide)) HR.out).mono ?_; rintro e w4 ⟨rfl, z4⟩; have z44 := z4.held) | (go_at_call 8; refine (h_known (by assumption)).mono ?_; rintro e w5 ⟨rfl, z5, b5⟩))
          go_ret
          exact ⟨rfl, z5.done⟩
    · have hl' : ((100 : Int) < (n3 : Int)) := by omega
      go_enter Try.func5, Try.ntmps5
      go_upto_region 1 with fail
      refine wp_seen _ z0 ?_
      clear z0
      rintro w0 z
      have m1 := z.held.cellA
      have m2 := z.held.cellB
      generalize w.heap.size = N at *
      go_wp2_with (first | (go_at_call 7; refine (h_few z.held f1 f2).mono ?_; rintro e w1 ⟨rfl, z1⟩) | (go_at_call 8; refine (h_known (by assumption)).mono ?_; rintro e w5 ⟨rfl, z5, b5⟩))
      go_ret
      exact ⟨rfl, z5.done⟩
  · clear h1 h2
    go_enter Try.func5, Try.ntmps5
    go_upto_region 1 with fail
    refine wp_seen _ z0 ?_
    clear z0
    rintro w0 z
    have m1 := z.held.cellA
    have m2 := z.held.cellB
    generalize w.heap.size = N at *
    go_wp2_with (first | (go_at_call 7; refine (h_fewNot z.held hfew).mono ?_; rintro e w1 ⟨rfl, z1⟩) | (go_at_call 8; refine (h_known (by assumption)).mono ?_; rintro e w5 ⟨rfl, z5, b5⟩))
    go_ret
    exact ⟨rfl, z5.done⟩
end Go.Proofs.Yteibleghnadelaa
