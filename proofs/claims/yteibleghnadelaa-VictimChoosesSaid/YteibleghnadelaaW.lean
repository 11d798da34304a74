/-
  The walk of VictimChooses.
-/
import Derived.Test.YteibleghnadelaaX
namespace Go.Proofs.Yteibleghnadelaa
open Go.ChangeShapes Go.WideShapes Go.ChangeAt Go.RowKit
set_option linter.unusedVariables false

set_option maxHeartbeats 8000000 in
theorem victimChooses_walk (s1 : Option Addr) (n1 c1 : Nat) (s2 : Option Addr) (n2 c2 : Nat) (L1 L2 : List (Int × Int)) (k count bytes : Int) (w : World) (h1 : L1.length = n1) (h2 : L2.length = n2) (hE1 : Ents w s1 L1) (hE2 : Ents w s2 L2) (w1 : (Lit.int .u32 k).wf = true) (w2 : (Lit.int .i64 count).wf = true) (w3 : (Lit.int .i64 bytes).wf = true) :
    Calls Try.prog 4 #[.agg #[.slice s1 n1 c1, .slice s2 n2 c2], .int .u32 k, .int .i64 count, .int .i64 bytes] w fun e w' => e = .returned (.bool true) ∧ Below w.heap.size w w' := by
  have z0 := Held.start (c1 := c1) (c2 := c2) (n1 := n1) (n2 := n2) hE1 hE2
  clear hE1 hE2 w1 w2 w3
  by_cases hfew : n1 ≤ 60 ∧ n2 ≤ 60
  · obtain ⟨f1, f2⟩ := hfew
    have h3 : n1 + n2 ≤ 500 := by omega
    have H1 := Lib.hid h1
    have H2 := Lib.hid h2
    clear h1 h2
    by_cases hok : okC count bytes (L1 ++ L2) = true
    · obtain ⟨r1, r2⟩ := ok_res (k := k) hok
      obtain ⟨hf, hc, hb⟩ := ok_parts hok
      have hc' : ¬ (count < 0) := by omega
      have hb' : ¬ (bytes < 0) := by omega
      have Hf := Lib.hid hf
      obtain ⟨V, hV⟩ : ∃ V, victimsL (L1 ++ L2) k count bytes = V := ⟨_, rfl⟩
      obtain ⟨n, hn⟩ : ∃ n, V.length = n := ⟨_, rfl⟩
      have hn5 : n ≤ 500 := by rw [← hn, ← hV, victimsL_length]; exact Nat.le_trans (many_le _ _ _ _) (Nat.le_trans (orderL_length _ _) (by rw [List.length_append, H1.out, H2.out]; exact h3))
      have HR := Lib.hid (show resC k count bytes (L1 ++ L2) = V ∧ errC count bytes (L1 ++ L2) = 0 from ⟨r1.trans hV, r2⟩)
      have HV := Lib.hid hV
      have Hn := Lib.hid hn
      clear hok hf hV hn r1 r2
      go_enter Try.func4, Try.ntmps4
      go_upto_region 1 with fail
      refine wp_seen _ z0 ?_
      clear z0
      rintro w0 z
      have m1 := z.cellA
      have m2 := z.cellB
      generalize w.heap.size = N at *
      go_upto_region 5 with (first | (go_at_call 7; refine (h_few (by assumption) f1 f2).mono ?_; rintro e w1 ⟨rfl, z1⟩; have m3 := z1.cellA; have m4 := z1.cellB) | (go_at_call 10; refine (h_fairT (by assumption) H1.out H2.out h3 Hf.out).mono ?_; rintro e w2 ⟨rfl, z2⟩; have m5 := z2.cellA; have m6 := z2.cellB))
      clear z z1 m1 m2 m3 m4 m5 m6
      go_region_held3 (fun W => Held w N s1 n1 c1 s2 n2 c2 L1 L2 W ∧ W.cell? ⟨N, 0, none⟩ = some (.slice s1 n1 c1) ∧ W.cell? ⟨N, 1, none⟩ = some (.slice s2 n2 c2)) (first | assumption | exact Held.both (by assumption) | exact z2.drew.both) (first | (go_at_call 16; refine (h_ref (by first | assumption | exact z2.drew) H1.out H2.out h3 Hf.out.1 HV.out Hn.out).mono ?_; rintro e w3 ⟨A, c, rfl, eA, z3, b3, _⟩) | (go_at_call 15; refine (h_chooses (by assumption) H1.out H2.out h3 (by first | exact eA | exact Slots.below eA (by assumption) (Nat.le_refl _)) Hn.out (Nat.le_trans hn5 (by decide)) HR.out).mono ?_; rintro e w4 ⟨rfl, z4⟩) | (go_at_call 8; refine (h_known (by first | assumption | exact z2.drew)).mono ?_; rintro e w5 ⟨rfl, z5, b5⟩))
      all_goals go_wp2_with fail
      all_goals go_ret
      all_goals exact ⟨rfl, Held.done (by assumption)⟩
    · have HR := Lib.hid (not_res (k := k) hok)
      rcases not_ok hok with hf | ⟨hf, hc⟩ | ⟨hf, hc, hb⟩
      · have Hf := Lib.hid hf
        clear hok hf
        go_enter Try.func4, Try.ntmps4
        go_upto_region 1 with fail
        refine wp_seen _ z0 ?_
        clear z0
        rintro w0 z
        have m1 := z.cellA
        have m2 := z.cellB
        generalize w.heap.size = N at *
        go_wp2_with (first | (go_at_call 7; refine (h_few (by assumption) f1 f2).mono ?_; rintro e w1 ⟨rfl, z1⟩; have m3 := z1.cellA; have m4 := z1.cellB) | (go_at_call 10; refine (h_fairF (by assumption) H1.out H2.out h3 Hf.out).mono ?_; rintro e w2 ⟨rfl, z2⟩; have m5 := z2.cellA; have m6 := z2.cellB) | (go_at_call 15; refine (h_chooses (T := []) (by assumption) H1.out H2.out h3 (fun h => absurd h (by decide)) rfl (by decide) HR.out).mono ?_; rintro e w4 ⟨rfl, z4⟩) | (go_at_call 8; refine (h_known (by assumption)).mono ?_; rintro e w5 ⟨rfl, z5, b5⟩))
        go_ret
        exact ⟨rfl, z5.done⟩
      · have Hf := Lib.hid hf
        clear hok hf
        go_enter Try.func4, Try.ntmps4
        go_upto_region 1 with fail
        refine wp_seen _ z0 ?_
        clear z0
        rintro w0 z
        have m1 := z.cellA
        have m2 := z.cellB
        generalize w.heap.size = N at *
        go_wp2_with (first | (go_at_call 7; refine (h_few (by assumption) f1 f2).mono ?_; rintro e w1 ⟨rfl, z1⟩; have m3 := z1.cellA; have m4 := z1.cellB) | (go_at_call 10; refine (h_fairT (by assumption) H1.out H2.out h3 Hf.out).mono ?_; rintro e w2 ⟨rfl, z2⟩; have m5 := z2.cellA; have m6 := z2.cellB) | (go_at_call 15; refine (h_chooses (T := []) (by assumption) H1.out H2.out h3 (fun h => absurd h (by decide)) rfl (by decide) HR.out).mono ?_; rintro e w4 ⟨rfl, z4⟩) | (go_at_call 8; refine (h_known (by assumption)).mono ?_; rintro e w5 ⟨rfl, z5, b5⟩))
        go_ret
        exact ⟨rfl, z5.done⟩
      · have Hf := Lib.hid hf
        have hc' : ¬ (count < 0) := by omega
        clear hok hf
        go_enter Try.func4, Try.ntmps4
        go_upto_region 1 with fail
        refine wp_seen _ z0 ?_
        clear z0
        rintro w0 z
        have m1 := z.cellA
        have m2 := z.cellB
        generalize w.heap.size = N at *
        go_wp2_with (first | (go_at_call 7; refine (h_few (by assumption) f1 f2).mono ?_; rintro e w1 ⟨rfl, z1⟩; have m3 := z1.cellA; have m4 := z1.cellB) | (go_at_call 10; refine (h_fairT (by assumption) H1.out H2.out h3 Hf.out).mono ?_; rintro e w2 ⟨rfl, z2⟩; have m5 := z2.cellA; have m6 := z2.cellB) | (go_at_call 15; refine (h_chooses (T := []) (by assumption) H1.out H2.out h3 (fun h => absurd h (by decide)) rfl (by decide) HR.out).mono ?_; rintro e w4 ⟨rfl, z4⟩) | (go_at_call 8; refine (h_known (by assumption)).mono ?_; rintro e w5 ⟨rfl, z5, b5⟩))
        go_ret
        exact ⟨rfl, z5.done⟩
  · clear h1 h2
    go_enter Try.func4, Try.ntmps4
    go_upto_region 1 with fail
    refine wp_seen _ z0 ?_
    clear z0
    rintro w0 z
    have m1 := z.cellA
    have m2 := z.cellB
    generalize w.heap.size = N at *
    go_wp2_with (first | (go_at_call 7; refine (h_fewNot (by assumption) hfew).mono ?_; rintro e w1 ⟨rfl, z1⟩) | (go_at_call 8; refine (h_known (by assumption)).mono ?_; rintro e w5 ⟨rfl, z5, b5⟩))
    go_ret
    exact ⟨rfl, z5.done⟩
end Go.Proofs.Yteibleghnadelaa
