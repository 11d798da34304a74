/-
  The walk of VictimOrders.
-/
import Derived.Test.YteibleghnadelaaX
namespace Go.Proofs.Yteibleghnadelaa
open Go.ChangeShapes Go.WideShapes Go.ChangeAt Go.RowKit
set_option linter.unusedVariables false

/-- And entries that share no memory with them. -/
structure HeldY (w : World) (N : Nat) (s1 : Option Addr) (n1 c1 : Nat) (s2 : Option Addr) (n2 c2 : Nat) (L1 L2 : List (Int × Int)) (Y : Nat) (A1 : Option Addr) (d1 : Nat) (A2 : Option Addr) (d2 : Nat) (W : World) : Prop where
  held : Held w N s1 n1 c1 s2 n2 c2 L1 L2 W
  box : W.heap[Y]? = some (.cells #[.slice A1 n1 d1, .slice A2 n2 d2] 24 (0, 0))
  a1 : Ents W A1 L1
  a2 : Ents W A2 L2
section
variable {w W V : World} {N Y : Nat} {s1 s2 A1 A2 : Option Addr} {n1 n2 c1 c2 d1 d2 : Nat} {L1 L2 : List (Int × Int)}
theorem HeldY.step (z : HeldY w N s1 n1 c1 s2 n2 c2 L1 L2 Y A1 d1 A2 d2 W) (b : Below W.heap.size W V) : HeldY w N s1 n1 c1 s2 n2 c2 L1 L2 Y A1 d1 A2 d2 V :=
  ⟨z.held.step b, (b.block Y (lt_of_heap z.box)).trans z.box, z.a1.below b (Nat.le_refl _), z.a2.below b (Nat.le_refl _)⟩
theorem HeldY.start (z : Held w N s1 n1 c1 s2 n2 c2 L1 L2 W) (hA : Ents W A1 L1) (hB : Ents W A2 L2) :
    HeldY w N s1 n1 c1 s2 n2 c2 L1 L2 W.heap.size A1 d1 A2 d2 (W.alloc (.cells #[.slice A1 n1 d1, .slice A2 n2 d2] 24)) := by
  have b : Below W.heap.size W (W.alloc (.cells #[.slice A1 n1 d1, .slice A2 n2 d2] 24)) := (Below.refl _ _).alloc (Nat.le_refl _) _
  exact ⟨z.step b, heap_new rfl, hA.below b (Nat.le_refl _), hB.below b (Nat.le_refl _)⟩
theorem HeldY.cells (z : HeldY w N s1 n1 c1 s2 n2 c2 L1 L2 Y A1 d1 A2 d2 W) : W.cell? ⟨N, 0, none⟩ = some (.slice s1 n1 c1) ∧ W.cell? ⟨N, 1, none⟩ = some (.slice s2 n2 c2) ∧ W.cell? ⟨Y, 0, none⟩ = some (.slice A1 n1 d1) ∧ W.cell? ⟨Y, 1, none⟩ = some (.slice A2 n2 d2) := ⟨z.held.cellA, z.held.cellB, cell_of z.box 0, cell_of z.box 1⟩
theorem h_own (z : Held w N s1 n1 c1 s2 n2 c2 L1 L2 W) (h1 : L1.length = n1) (h2 : L2.length = n2) (h3 : n1 + n2 ≤ 500) : Calls Try.prog 9 #[.agg #[.slice s1 n1 c1, .slice s2 n2 c2]] W fun e w' => ∃ A1 d1 A2 d2, e = .returned (.agg #[.slice A1 n1 d1, .slice A2 n2 d2]) ∧ Ents w' A1 L1 ∧ Ents w' A2 L2 ∧ Held w N s1 n1 c1 s2 n2 c2 L1 L2 w' :=
  (own_is (c1 := c1) (c2 := c2) z.e1 z.e2 h1 h2 h3).mono fun e w' ⟨A1, d1, A2, d2, q1, q2, q3, q4⟩ => ⟨A1, d1, A2, d2, q1, q2, q3, z.step q4⟩
theorem hy_fair (z : HeldY w N s1 n1 c1 s2 n2 c2 L1 L2 Y A1 d1 A2 d2 W) (h1 : L1.length = n1) (h2 : L2.length = n2) (h3 : n1 + n2 ≤ 500) (b : Bool) (hb : b = true ↔ FairL (L1 ++ L2)) : Calls Try.prog 10 #[.slice s1 n1 c1, .slice s2 n2 c2] W fun e w' => e = .returned (.bool b) ∧ HeldY w N s1 n1 c1 s2 n2 c2 L1 L2 Y A1 d1 A2 d2 w' :=
  (fair_is (c1 := c1) (c2 := c2) z.held.e1 z.held.e2 h1 h2 h3).mono fun e w' h => ⟨h.1.trans (ret_bool (by cases b <;> simp at hb <;> simp [hb])), z.step h.2⟩
theorem hy_order {k er : Int} {R : List (Int × Int)} {n : Nat} (z : HeldY w N s1 n1 c1 s2 n2 c2 L1 L2 Y A1 d1 A2 d2 W) (h1 : L1.length = n1) (h2 : L2.length = n2) (h3 : n1 + n2 ≤ 500) (hR : resO k (L1 ++ L2) = R) (hn : R.length = n) (he : errO (L1 ++ L2) = er) :
    Calls Try.prog 11 #[.slice A1 n1 d1, .slice A2 n2 d2, .int .u32 k] W fun e w' => ∃ A c, e = .returned (.tuple #[.slice A n c, .int .i64 er]) ∧ w'.ownsRow W.heap.size 34 2 (.slice A n c) n (entsL R) ∧ Below W.heap.size W w' ∧ HeldY w N s1 n1 c1 s2 n2 c2 L1 L2 Y A1 d1 A2 d2 W := by
  refine (Order_is (c1 := d1) (c2 := d2) (k := k) z.a1 z.a2 h1 h2 h3).mono ?_
  rintro e w' ⟨A, n', c, q1, rfl, q3, q4⟩
  rw [hR, hn] at q1
  subst q1
  rw [hR] at q3
  rw [he]
  exact ⟨A, c, rfl, q3, q4, z⟩
theorem hy_same {s s' : Option Addr} {n c c' : Nat} {L : List (Int × Int)} (z : HeldY w N s1 n1 c1 s2 n2 c2 L1 L2 Y A1 d1 A2 d2 W) (hA : Ents W s L) (hB : Ents W s' L) (hl : L.length = n) (hn : n ≤ 500) :
    Calls Try.prog 12 #[.slice s n c, .slice s' n c'] W fun e w' => e = .returned (.bool true) ∧ HeldY w N s1 n1 c1 s2 n2 c2 L1 L2 Y A1 d1 A2 d2 w' :=
  (same_entsB true ⟨fun _ => rfl, fun _ => rfl⟩ (c1 := c) (c2 := c') hA hB hl hl (by omega) (by omega)).mono fun e w' h => ⟨h.1, z.step h.2⟩
end
theorem entsL_bump {L : List (Int × Int)} {i : Nat} {x : Int × Int} (hx : L[i]? = some x) (v : Int) : (entsL L).set (i * 2 + 1) (.int .i64 v) = entsL (L.set i (x.1, v)) := by
  have hi : i < L.length := (List.getElem?_eq_some_iff.1 hx).1
  rw [← entsL_set hi (x.1, v)]
  congr 1
  have h1 := (entsL_get hx).1
  apply List.ext_getElem?
  intro j
  rw [List.getElem?_set]
  split
  · rename_i e
    subst e
    rw [h1]
    split
    · rfl
    · rename_i q
      exact absurd (List.getElem?_eq_some_iff.1 h1).1 q
  · rfl
theorem own_some {w : World} {B n c : Nat} {A : Option Addr} {xs : List Value} (own : w.ownsRow B 34 2 (.slice A n c) n xs) (h : 0 < n) : ∃ g, A = some ⟨g, 0, none⟩ ∧ B ≤ g := by
  obtain ⟨hl, ⟨q, q0⟩ | ⟨g, c2, cur, q, hb, _⟩⟩ := own
  · omega
  · exact ⟨g, by simpa using congrArg (fun v => match v with | .slice a _ _ => a | _ => none) q, hb⟩
theorem own_bump {w : World} {B g n c i : Nat} {F : List (Int × Int)} {x : Int × Int} (own : w.ownsRow B 34 2 (.slice (some ⟨g, 0, none⟩) n c) n (entsL F)) (hx : F[i]? = some x) (v : Int) :
    (w.setCell ⟨g, i * 2 + 1, none⟩ (.int .i64 v)).ownsRow B 34 2 (.slice (some ⟨g, 0, none⟩) n c) n (entsL (F.set i (x.1, v))) := by
  obtain ⟨hl, ⟨h, h0⟩ | ⟨g', c2, cur, h, hb, hh, hn, hmx, hs, ht⟩⟩ := own
  · cases h
  obtain ⟨rfl, rfl⟩ : g = g' ∧ c = c2 := by simpa using h
  refine ⟨by rw [entsL_length] at hl ⊢; simpa using hl, .inr ⟨g, c, _, rfl, hb, heap_set hh _, hn, hmx, by simpa using hs, ?_⟩⟩
  rw [← entsL_bump hx, ← ht]
  simp only [Array.toList_setIfInBounds, List.take_set]
theorem below_bump {B : Nat} {a w : World} (h : Below B a w) {p i : Nat} (h1 : B ≤ p) {u : Value} : Below B a (w.setCell ⟨p, i, none⟩ u) :=
  ⟨h.os, h.tape, h.output, by rw [size_set]; exact h.size, fun j hj => (Below.heap_setCell _ _ u j (by simp; omega)).trans (h.block j hj)⟩
set_option maxHeartbeats 8000000 in
theorem victimOrders_walk (s1 : Option Addr) (n1 c1 : Nat) (s2 : Option Addr) (n2 c2 : Nat) (L1 L2 : List (Int × Int)) (k : Int) (w : World) (h1 : L1.length = n1) (h2 : L2.length = n2) (hE1 : Ents w s1 L1) (hE2 : Ents w s2 L2) (w1 : (Lit.int .u32 k).wf = true) :
    Calls Try.prog 3 #[.agg #[.slice s1 n1 c1, .slice s2 n2 c2], .int .u32 k] w fun e w' => e = .returned (.bool true) ∧ Below w.heap.size w w' := by
  have z0 := Held.start (c1 := c1) (c2 := c2) (n1 := n1) (n2 := n2) hE1 hE2
  clear hE1 hE2 w1
  by_cases hfew : n1 ≤ 60 ∧ n2 ≤ 60
  · obtain ⟨f1, f2⟩ := hfew
    have h3 : n1 + n2 ≤ 500 := by omega
    have h4 : n1 ≤ 500 := by omega
    have h5 : n2 ≤ 500 := by omega
    have H1 := Lib.hid h1
    have H2 := Lib.hid h2
    clear h1 h2
    obtain ⟨b, hb⟩ : ∃ b : Bool, b = true ↔ FairL (L1 ++ L2) := ⟨decide (FairL (L1 ++ L2)), decide_eq_true_iff⟩
    obtain ⟨R, hR⟩ : ∃ R, resO k (L1 ++ L2) = R := ⟨_, rfl⟩
    obtain ⟨n, hn⟩ : ∃ n, R.length = n := ⟨_, rfl⟩
    obtain ⟨er, her⟩ : ∃ er, errO (L1 ++ L2) = er := ⟨_, rfl⟩
    have hn5 : n ≤ 500 := by
      have := resO_length k (L1 ++ L2)
      rw [hR, hn, List.length_append, H1.out, H2.out] at this; omega
    have Hb := Lib.hid hb
    have HR := Lib.hid hR
    have Hn := Lib.hid hn
    have He := Lib.hid her
    clear hb hR hn her
    go_enter Try.func3, Try.ntmps3
    go_upto_region 1 with fail
    refine wp_seen _ z0 ?_
    clear z0
    rintro w0 z
    have m1 := z.cellA
    have m2 := z.cellB
    generalize w.heap.size = N at *
    go_upto_region 4 with (first | (go_at_call 7; refine (h_few (by assumption) f1 f2).mono ?_; rintro e w1 ⟨rfl, z1⟩; have m3 := z1.cellA; have m4 := z1.cellB) | (go_at_call 9; refine (h_own (by assumption) H1.out H2.out h3).mono ?_; rintro e w2 ⟨A1, d1, A2, d2, rfl, e1, e2, z2⟩))
    refine wp_seen _ (HeldY.start z2 e1 e2) ?_
    clear z z1 z2 m1 m2 m3 m4 e1 e2
    rintro w3 z3
    obtain ⟨m1, m2, m3, m4⟩ := z3.cells
    generalize w2.heap.size = Y at *
    have Z3 := Lib.hid z3
    go_upto_region 6 with (first | (go_at_call 10; refine (hy_fair z3 H1.out H2.out h3 b Hb.out).mono ?_; rintro e w4 ⟨rfl, z4⟩; obtain ⟨m5, m6, m7, m8⟩ := z4.cells) | (go_at_call 11; refine (hy_order (by assumption) H1.out H2.out h3 HR.out Hn.out He.out).mono ?_; rintro e w5 ⟨A, c, rfl, o5, b5, z5⟩))
    clear m1 m2 m3 m4 m5 m6 m7 m8 z3 z4 Z3
    go_wp2_with fail
    go_loopw [9] (fun x wr => ∃ (j : Nat) (F : List (Int × Int)), j ≤ n ∧ x = .int .i64 (j : Nat) ∧ wr.ownsRow w4.heap.size 34 2 (.slice A n c) n (entsL F) ∧ Below w4.heap.size w4 wr) (fun x _ => n + 1 - (intOf x).toNat)
    case atStart => exact ⟨0, R, by omega, rfl, o5, b5⟩
    case round =>
      obtain ⟨j, F, hj, rfl, o, bw⟩ := hrel
      clear o5 b5
      by_cases hjn : j < n
      · have hl := (Ents.of_owns o).1
        obtain ⟨x, hx⟩ : ∃ x, F[j]? = some x := ⟨_, List.getElem?_eq_getElem (by omega)⟩
        obtain ⟨g, rfl, hg⟩ := own_some o (by omega)
        obtain ⟨p1, p2⟩ := own_cells o hx
        have fz := own_frozen o (j * 2 + 1)
        have Hx := Lib.hid hx
        clear hl hx z5
        go_wp2_with fail
        go_roundw
        case rel => exact ⟨j + 1, _, by omega, by go_num, own_bump o Hx.out _, below_bump bw hg⟩
        all_goals (simp [intOf]; omega)
      · obtain rfl : n = j := by omega
        have zr := z5.step bw
        clear z5 bw o
        obtain ⟨m1, m2, m3, m4⟩ := zr.cells
        have T0 := Lib.hid (rfl : 0 = 0)
        go_upto_region 12 with (first | (go_at_call 12; clear T0; refine (hy_same (by assumption) zr.a1 zr.held.e1 H1.out h4).mono ?_; rintro e w6 ⟨rfl, z6⟩; obtain ⟨k1, k2, k3, k4⟩ := z6.cells) | (go_at_call 12; refine (hy_same z6 z6.a2 z6.held.e2 H2.out h5).mono ?_; rintro e w7 ⟨rfl, z7⟩))
        have zz := z7.held
        have q1 := zz.cellA
        have q2 := zz.cellB
        clear zr m1 m2 m3 m4 k1 k2 k3 k4 z6 z7
        cases b
        · have hnf : ¬ FairL (L1 ++ L2) := fun q => (nomatch Hb.out.2 q)
          obtain rfl : er = 2 := by rw [← He.out]; unfold errO; rw [if_neg hnf]
          obtain rfl : n = 0 := by rw [← Hn.out, ← HR.out]; unfold resO; rw [if_neg hnf]; rfl
          clear hnf
          go_wp2_with (first | (go_at_call 8; refine (h_known (by assumption)).mono ?_; rintro e w8 ⟨rfl, z8, b8⟩))
          go_ret
          exact ⟨rfl, z8.done⟩
        · have hf : FairL (L1 ++ L2) := Hb.out.1 rfl
          obtain rfl : er = 0 := by rw [← He.out]; unfold errO; rw [if_pos hf]
          have HO := Lib.hid (show orderL k (L1 ++ L2) = R by rw [← HR.out]; unfold resO; rw [if_pos hf])
          have HB := Lib.hid (show resO k (L1 ++ L2) = R ∧ errO (L1 ++ L2) = 0 from ⟨HR.out, He.out⟩)
          clear hf
          go_upto_region 14 with fail
          go_region_held3 (fun W => Held w N s1 n1 c1 s2 n2 c2 L1 L2 W ∧ W.cell? ⟨N, 0, none⟩ = some (.slice s1 n1 c1) ∧ W.cell? ⟨N, 1, none⟩ = some (.slice s2 n2 c2)) (first | assumption | exact Held.both (by assumption) | exact zz.drew.both) (first | (go_at_call 14; refine (h_orderR (by first | assumption | exact zz.drew) H1.out H2.out h3 HO.out Hn.out).mono ?_; rintro e w3 ⟨A3, c3, rfl, eA, z3⟩) | (go_at_call 13; refine (h_orders (by assumption) H1.out H2.out h3 (by first | exact eA | exact Ents.below eA (by assumption) (Nat.le_refl _)) Hn.out (Nat.le_trans hn5 (by decide)) HB.out).mono ?_; rintro e w4 ⟨rfl, z4⟩) | (go_at_call 8; refine (h_known (by first | assumption | exact zz.drew)).mono ?_; rintro e w5 ⟨rfl, z5, b5⟩))
          all_goals go_wp2_with fail
          all_goals go_ret
          all_goals exact ⟨rfl, Held.done (by assumption)⟩
  · clear h1 h2
    go_enter Try.func3, Try.ntmps3
    go_upto_region 1 with fail
    refine wp_seen _ z0 ?_
    clear z0
    rintro w0 z
    have m1 := z.cellA
    have m2 := z.cellB
    generalize w.heap.size = N at *
    go_wp2_with (first | (go_at_call 7; refine (h_fewNot (by assumption) hfew).mono ?_; rintro e w1 ⟨rfl, z1⟩) | (go_at_call 8; refine (h_known (by assumption)).mono ?_; rintro e w5 ⟨rfl, z5, b5⟩))
    go_ret
    exact ⟨rfl, z5.done⟩
end Go.Proofs.Yteibleghnadelaa
