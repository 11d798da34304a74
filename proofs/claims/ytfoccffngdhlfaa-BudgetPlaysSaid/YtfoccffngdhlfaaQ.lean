/-
  The walk of BudgetHolds.
-/
import Derived.Test.YtfoccffngdhlfaaP
import Derived.Deep.Cut
namespace Go.Proofs.Ytfoccffngdhlfaa
open Go.ChangeShapes Go.WideShapes Go.ChangeAt Go.RowKit
set_option linter.unusedVariables false

/-- What a round leaves. -/
def Left (w : World) (k : Nat) (W : World) : Prop := Below w.heap.size w W ∧ ∃ K, At W w.heap.size K ∧ Fair K k
theorem left_of {w W1 W2 : World} {k : Nat} {K : Bud} (b1 : Below w.heap.size w W1) (k2 : Keep w.heap.size W1 W2) (hA : At W2 w.heap.size K) (hF : Fair K k) : Left w k W2 := ⟨b1.trans (k2.below (Nat.le_refl _) b1.size), K, hA, hF⟩
set_option maxRecDepth 100000 in
set_option maxHeartbeats 4000000 in
theorem budgetHolds_walk (a0 a1 : Int) (s : Option Addr) (len cap : Nat) (f : Nat → Nat → Int) (g c : Int) (w0 : (Lit.int .i64 a0).wf = true) (w1 : (Lit.int .i64 a1).wf = true) (w : World) (hl : len ≤ maxLen) (hs : IsActs w s len f) (w3 : (Lit.int .i64 g).wf = true) (w4 : (Lit.int .i64 c).wf = true) :
    Calls Try.prog 5 #[.int .i64 a0, .int .i64 a1, .slice s len cap, .int .i64 g, .int .i64 c] w fun e w' => e = .returned (.bool true) ∧ Below w.heap.size w w' := by
  clear w0 w1 w3 w4
  have hm : len ≤ 9223372036854775807 := by unfold maxLen at hl; omega
  cases hok : okB a0 a1
  · go_enter Try.func5, Try.ntmps5
    go_wp2_with (first | (go_at_call 9; refine (law_allowed_any _ _ _).mono ?_; rw [hok]; rintro e w' ⟨rfl, rfl⟩) | (go_at_call 10; refine (known_any _).mono ?_; rintro e w' ⟨rfl, hb⟩))
    go_ret
    exact ⟨rfl, hb⟩
  by_cases h60 : 60 < len
  · go_enter Try.func5, Try.ntmps5
    go_wp2_with (first | (go_at_call 9; refine (law_allowed_any _ _ _).mono ?_; rw [hok]; rintro e w' ⟨rfl, rfl⟩) | (go_at_call 10; refine (known_any _).mono ?_; rintro e w' ⟨rfl, hb⟩))
    go_ret
    exact ⟨rfl, hb⟩
  cases hf : fairB g c
  · go_enter Try.func5, Try.ntmps5
    go_wp2_with (first | (go_at_call 9; refine (law_allowed_any _ _ _).mono ?_; rw [hok]; rintro e w' ⟨rfl, rfl⟩) | (go_at_call 16; refine (fair_any _ _ _).mono ?_; rw [hf]; rintro e w' ⟨rfl, rfl⟩) | (go_at_call 10; refine (known_any _).mono ?_; rintro e w' ⟨rfl, hb⟩))
    go_ret
    exact ⟨rfl, hb⟩
  have hA0 : At (w.alloc (.cells (newB a0 a1).cells 56)) w.heap.size (newB a0 a1) := At.new
  have k0 : Below w.heap.size w (w.alloc (.cells (newB a0 a1).cells 56)) := (Below.refl _ _).alloc (Nat.le_refl _) _
  go_enter Try.func5, Try.ntmps5
  go_wp2_with (first | (go_at_call 9; refine (law_allowed_any _ _ _).mono ?_; rw [hok]; rintro e w' ⟨rfl, rfl⟩) | (go_at_call 16; refine (fair_any _ _ _).mono ?_; rw [hf]; rintro e w' ⟨rfl, rfl⟩) | (go_at_call 11; refine (new_ok _ _ _ hok).mono ?_; rintro e w' ⟨rfl, rfl⟩))
  go_loopw [13] (fun i wr => ∃ k : Nat, k ≤ len ∧ i = .int .i64 k ∧ Left w k wr) (fun i _ => len + 1 - (intOf i).toNat)
  case atStart => exact ⟨0, by omega, rfl, k0, _, hA0, Fair.new hok⟩
  case round =>
    obtain ⟨k, hk, rfl, hbel, K, hA, hF⟩ := hrel
    by_cases hlt : k < len
    · obtain ⟨b, off, rfl, hb, hcell⟩ := hs (by omega)
      have f0 : wr.cell? ⟨b, off + k * 4, none⟩ = some (.int .i64 (f k 0)) := (hbel.cell (p := ⟨b, off + (k * 4 + 0), none⟩) hb).trans (hcell k hlt 0 (by omega))
      have f1 : wr.cell? ⟨b, off + k * 4 + 1, none⟩ = some (.int .i64 (f k 1)) := (hbel.cell (p := ⟨b, off + (k * 4 + 1), none⟩) hb).trans (hcell k hlt 1 (by omega))
      have f2 : wr.cell? ⟨b, off + k * 4 + 2, none⟩ = some (.int .i64 (f k 2)) := (hbel.cell (p := ⟨b, off + (k * 4 + 2), none⟩) hb).trans (hcell k hlt 2 (by omega))
      have f3 : wr.cell? ⟨b, off + k * 4 + 3, none⟩ = some (.int .i64 (f k 3)) := (hbel.cell (p := ⟨b, off + (k * 4 + 3), none⟩) hb).trans (hcell k hlt 3 (by omega))
      clear hcell hs
      have hI := hF.inv (by omega)
      generalize f k 0 = x0 at f0
      generalize f k 1 = x1 at f1
      generalize f k 2 = x2 at f2
      generalize f k 3 = x3 at f3
      have r13 := addR_any hF (by omega) x1 x2
      have r18 := removeR_any hF x1 x2
      have r15 := changeR_any hF x1 x2 x3
      have r20 := setR_any hF x2 x3
      have r14 := moveR_any hF (by omega) x1 x2
      have iM : (moveR K x1 x2).2.Inv := r14.1.inv (by omega)
      have tM : eq2 ((moveR K x1 x2).2.c0 + (moveR K x1 x2).2.c1) ((moveR K x1 x2).2.b0 + (moveR K x1 x2).2.b1) (K.c0 + K.c1) (K.b0 + K.b1) = true := eq2_iff.2 r14.2
      have hA9 : At (wr.alloc (.cells #[.int .i64 x0, .int .i64 x1, .int .i64 x2, .int .i64 x3] 37)) w.heap.size K := heap_alloc hA _
      have hB9 : (wr.alloc (.cells #[.int .i64 x0, .int .i64 x1, .int .i64 x2, .int .i64 x3] 37)).heap[wr.heap.size]? = some (.cells #[.int .i64 x0, .int .i64 x1, .int .i64 x2, .int .i64 x3] 37 (0, 0)) := heap_new rfl
      have b9 : Below w.heap.size w (wr.alloc (.cells #[.int .i64 x0, .int .i64 x1, .int .i64 x2, .int .i64 x3] 37)) := hbel.alloc hbel.size _
      clear hA0 k0
      go_wp2_with (first | (go_at_call 17; refine (total_any w.heap.size K _ hA9 hI).mono ?_; rintro e w1 ⟨rfl, hb1⟩; have hA1 := At.below hA9 hb1; have hB1 := heap_below hB9 hb1; have l0 : w1.cell? ⟨wr.heap.size, 0, none⟩ = some (.int .i64 x0) := cell_of hB1 0; have l1 : w1.cell? ⟨wr.heap.size, 1, none⟩ = some (.int .i64 x1) := cell_of hB1 1; have l2 : w1.cell? ⟨wr.heap.size, 2, none⟩ = some (.int .i64 x2) := cell_of hB1 2; have l3 : w1.cell? ⟨wr.heap.size, 3, none⟩ = some (.int .i64 x3) := cell_of hB1 3; have b1 := b9.trans (hb1.mono b9.size); have fin : Left w (k + 1) w1 := ⟨b1, K, hA1, hF.up⟩) | (go_at_call 13; refine (add_any w.heap.size K x1 x2 _ hA1 hI).mono ?_; rintro e w2 ⟨rfl, k2, hA2⟩; have fin : Left w (k + 1) w2 := left_of b1 k2 hA2 r13) | (go_at_call 18; refine (remove_any w.heap.size K x1 x2 _ hA1 hI).mono ?_; rintro e w2 ⟨rfl, k2, hA2⟩; have fin : Left w (k + 1) w2 := left_of b1 k2 hA2 r18) | (go_at_call 15; refine (change_any w.heap.size K x1 x2 x3 _ hA1 hI).mono ?_; rintro e w2 ⟨rfl, k2, hA2⟩; have fin : Left w (k + 1) w2 := left_of b1 k2 hA2 r15) | (go_at_call 20; refine (set_any w.heap.size K x2 x3 _ hA1 hI).mono ?_; rintro e w2 ⟨rfl, k2, hA2⟩; have fin : Left w (k + 1) w2 := left_of b1 k2 hA2 r20) | (go_at_call 14; refine (move_any w.heap.size K x1 x2 _ hA1 hI).mono ?_; rintro e w2 ⟨rfl, k2, hA2⟩; have b2 := b1.trans (k2.below (Nat.le_refl _) b1.size)) | (go_at_call 19; refine (total_lit w.heap.size _ (K.c0 + K.c1) (K.b0 + K.b1) true _ hA2 iM tM).mono ?_; rintro e w3 ⟨rfl, k3, hA3⟩; have fin : Left w (k + 1) w3 := left_of b2 k3 hA3 r14.1))
      all_goals go_roundw
      all_goals first
        | (case rel => exact ⟨k + 1, by omega, by go_num, fin⟩)
        | skip
      all_goals (simp [intOf]; omega)
    · have hI := hF.inv (by omega)
      obtain ⟨hg, c0, c1⟩ := fairB_iff.1 hf
      obtain ⟨F0, F1⟩ := addR_fair hF (by omega) g c hf
      have F2 := removeR_back hF g c hf
      have hI1 := F1.inv (by omega)
      clear hA0 k0 hs
      have G0 := Lib.hid F0
      have G2 := Lib.hid F2
      clear F0 F2
      go_upto_region 24 with fail
      have q0 := hF.c0; have q1 := hF.C0; have q2 := hF.b0; have q3 := hF.B0; have q4 := hF.c1; have q5 := hF.C1; have q6 := hF.b1; have q7 := hF.B1
      have e0 : wrap64 (K.c0 + K.c1) = K.c0 + K.c1 := wrap_in (by omega)
      have e1 : wrap64 (K.b0 + K.b1) = K.b0 + K.b1 := wrap_in (by omega)
      have e2 : wrap64 (K.c0 + 1) = K.c0 + 1 := wrap_in (by omega)
      have e3 : wrap64 (K.b0 + c) = K.b0 + c := wrap_in (by omega)
      have e4 : wrap64 (K.c1 + 1) = K.c1 + 1 := wrap_in (by omega)
      have e5 : wrap64 (K.b1 + c) = K.b1 + c := wrap_in (by omega)
      have e6 : wrap64 (K.c1 + K.c0) = K.c1 + K.c0 := wrap_in (by omega)
      have e7 : wrap64 (K.b1 + K.b0) = K.b1 + K.b0 := wrap_in (by omega)
      have t0 : eq2 (K.c0 + K.c1) (K.b0 + K.b1) (K.c0 + K.c1) (K.b0 + K.b1) = true := eq2_iff.2 ⟨rfl, rfl⟩
      have t1 : eq2 (K.c0 + K.c1) (K.b0 + K.b1) (K.c1 + K.c0) (K.b1 + K.b0) = true := eq2_iff.2 ⟨by omega, by omega⟩
      have u0 : eq2 (usedN K 0) (usedC K 0) K.c0 K.b0 = true := eq2_iff.2 ⟨rfl, rfl⟩
      have u1 : eq2 (usedN K 1) (usedC K 1) K.c1 K.b1 = true := eq2_iff.2 ⟨rfl, rfl⟩
      have v0 : eq2 (usedN (K.put 0 (K.c0 + 1) (K.b0 + c)) 0) (usedC (K.put 0 (K.c0 + 1) (K.b0 + c)) 0) (K.c0 + 1) (K.b0 + c) = true := eq2_iff.2 ⟨rfl, rfl⟩
      have v1 : eq2 (usedN (K.put 1 (K.c1 + 1) (K.b1 + c)) 1) (usedC (K.put 1 (K.c1 + 1) (K.b1 + c)) 1) (K.c1 + 1) (K.b1 + c) = true := eq2_iff.2 ⟨rfl, rfl⟩
      have S0 : K.Seg 0 K.c0 K.b0 := .inl ⟨rfl, rfl, rfl⟩
      have S1 : K.Seg 1 K.c1 K.b1 := .inr ⟨rfl, rfl, rfl⟩
      clear q0 q1 q2 q3 q4 q5 q6 q7
      rcases hg with rfl | rfl
      · go_wp2_with fail
        go_at_call 21
        refine (used_any w.heap.size K 0 K.c0 K.b0 _ hA hI S0).mono ?_
        rintro e w1 ⟨rfl, hb1⟩
        have h1 := At.below hA hb1
        have b1 := (hbel).trans (hb1.mono (hbel).size)
        clear hb1
        clear hA hbel
        go_wp2_with fail
        go_at_call 21
        refine (used_any w.heap.size K 1 K.c1 K.b1 _ h1 hI S1).mono ?_
        rintro e w2 ⟨rfl, hb2⟩
        have h2 := At.below h1 hb2
        have b2 := (b1).trans (hb2.mono (b1).size)
        clear hb2
        clear h1 b1
        go_wp2_with fail
        go_at_call 13
        refine (add_lit w.heap.size K (K.put 0 (K.c0 + 1) (K.b0 + c)) 0 c 0 _ h2 hI G0.out).mono ?_
        rintro e w3 ⟨rfl, hk3, h3⟩
        have b3 := (b2).trans (hk3.below (Nat.le_refl _) (b2).size)
        clear hk3
        clear h2 b2
        go_wp2_with fail
        go_at_call 22
        refine (used_lit w.heap.size (K.put 0 (K.c0 + 1) (K.b0 + c)) 0 (K.c0 + 1) (K.b0 + c) true _ h3 hI1 v0).mono ?_
        rintro e w4 ⟨rfl, hk4, h4⟩
        have b4 := (b3).trans (hk4.below (Nat.le_refl _) (b3).size)
        clear hk4
        clear h3 b3
        go_wp2_with fail
        go_at_call 18
        refine (remove_lit w.heap.size (K.put 0 (K.c0 + 1) (K.b0 + c)) K 0 c 0 _ h4 hI1 G2.out).mono ?_
        rintro e w5 ⟨rfl, hk5, h5⟩
        have b5 := (b4).trans (hk5.below (Nat.le_refl _) (b4).size)
        clear hk5
        clear h4 b4
        go_wp2_with fail
        go_at_call 22
        refine (used_lit w.heap.size K 0 K.c0 K.b0 true _ h5 hI u0).mono ?_
        rintro e w6 ⟨rfl, hk6, h6⟩
        have b6 := (b5).trans (hk6.below (Nat.le_refl _) (b5).size)
        clear hk6
        clear h5 b5
        go_wp2_with fail
        go_at_call 22
        refine (used_lit w.heap.size K 1 K.c1 K.b1 true _ h6 hI u1).mono ?_
        rintro e w7 ⟨rfl, hk7, h7⟩
        have b7 := (b6).trans (hk7.below (Nat.le_refl _) (b6).size)
        clear hk7
        clear h6 b6
        go_wp2_with fail
        go_at_call 19
        refine (total_lit w.heap.size K (K.c0 + K.c1) (K.b0 + K.b1) true _ h7 hI t0).mono ?_
        rintro e w8 ⟨rfl, hk8, h8⟩
        have b8 := (b7).trans (hk8.below (Nat.le_refl _) (b7).size)
        clear hk8
        clear h7 b7
        go_wp2_with fail
        go_at_call 10
        refine (known_any _).mono ?_
        rintro e w9 ⟨rfl, hb⟩
        go_wp2_with fail
        go_ret
        exact ⟨rfl, b8.trans (hb.mono b8.size)⟩
      · go_wp2_with fail
        go_at_call 21
        refine (used_any w.heap.size K 1 K.c1 K.b1 _ hA hI S1).mono ?_
        rintro e w1 ⟨rfl, hb1⟩
        have h1 := At.below hA hb1
        have b1 := (hbel).trans (hb1.mono (hbel).size)
        clear hb1
        clear hA hbel
        go_wp2_with fail
        go_at_call 21
        refine (used_any w.heap.size K 0 K.c0 K.b0 _ h1 hI S0).mono ?_
        rintro e w2 ⟨rfl, hb2⟩
        have h2 := At.below h1 hb2
        have b2 := (b1).trans (hb2.mono (b1).size)
        clear hb2
        clear h1 b1
        go_wp2_with fail
        go_at_call 13
        refine (add_lit w.heap.size K (K.put 1 (K.c1 + 1) (K.b1 + c)) 1 c 0 _ h2 hI G0.out).mono ?_
        rintro e w3 ⟨rfl, hk3, h3⟩
        have b3 := (b2).trans (hk3.below (Nat.le_refl _) (b2).size)
        clear hk3
        clear h2 b2
        go_wp2_with fail
        go_at_call 22
        refine (used_lit w.heap.size (K.put 1 (K.c1 + 1) (K.b1 + c)) 1 (K.c1 + 1) (K.b1 + c) true _ h3 hI1 v1).mono ?_
        rintro e w4 ⟨rfl, hk4, h4⟩
        have b4 := (b3).trans (hk4.below (Nat.le_refl _) (b3).size)
        clear hk4
        clear h3 b3
        go_wp2_with fail
        go_at_call 18
        refine (remove_lit w.heap.size (K.put 1 (K.c1 + 1) (K.b1 + c)) K 1 c 0 _ h4 hI1 G2.out).mono ?_
        rintro e w5 ⟨rfl, hk5, h5⟩
        have b5 := (b4).trans (hk5.below (Nat.le_refl _) (b4).size)
        clear hk5
        clear h4 b4
        go_wp2_with fail
        go_at_call 22
        refine (used_lit w.heap.size K 1 K.c1 K.b1 true _ h5 hI u1).mono ?_
        rintro e w6 ⟨rfl, hk6, h6⟩
        have b6 := (b5).trans (hk6.below (Nat.le_refl _) (b5).size)
        clear hk6
        clear h5 b5
        go_wp2_with fail
        go_at_call 22
        refine (used_lit w.heap.size K 0 K.c0 K.b0 true _ h6 hI u0).mono ?_
        rintro e w7 ⟨rfl, hk7, h7⟩
        have b7 := (b6).trans (hk7.below (Nat.le_refl _) (b6).size)
        clear hk7
        clear h6 b6
        go_wp2_with fail
        go_at_call 19
        refine (total_lit w.heap.size K (K.c1 + K.c0) (K.b1 + K.b0) true _ h7 hI t1).mono ?_
        rintro e w8 ⟨rfl, hk8, h8⟩
        have b8 := (b7).trans (hk8.below (Nat.le_refl _) (b7).size)
        clear hk8
        clear h7 b7
        go_wp2_with fail
        go_at_call 10
        refine (known_any _).mono ?_
        rintro e w9 ⟨rfl, hb⟩
        go_wp2_with fail
        go_ret
        exact ⟨rfl, b8.trans (hb.mono b8.size)⟩
end Go.Proofs.Ytfoccffngdhlfaa
