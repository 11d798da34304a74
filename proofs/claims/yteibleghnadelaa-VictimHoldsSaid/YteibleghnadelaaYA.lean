/-
  The walk of VictimHolds.
-/
import Derived.Test.YteibleghnadelaaX
import Derived.Deep.DeepCutAuto
import Derived.Deep.CutBlock
namespace Go.Proofs.Yteibleghnadelaa
open Go.ChangeShapes Go.WideShapes Go.ChangeAt Go.RowKit
set_option linter.unusedVariables false

theorem i64_bounds {x : Int} (h : (Lit.int .i64 x).wf = true) : -9223372036854775808 ≤ x ∧ x ≤ 9223372036854775807 := by
  have := bounds_i64 h; omega
theorem u8_bounds {x : Int} (h : (Lit.int .u8 x).wf = true) : 0 ≤ x ∧ x ≤ 255 := by
  have := bounds_u8 h; omega
theorem Slots.take {w : World} {s : Option Addr} {L : List Int} (h : Slots w s L) (k : Nat) : Slots w s (L.take k) := fun h0 => by
  rw [List.length_take] at h0
  obtain ⟨b, off, e, hb, hc⟩ := h (by omega)
  refine ⟨b, off, e, hb, fun i x hx => hc i x ?_⟩
  have hi : i < (L.take k).length := (List.getElem?_eq_some_iff.1 hx).1
  rw [List.length_take] at hi
  rwa [List.getElem?_take_of_lt (by omega)] at hx
/-- The entries, and the victims. -/
structure HeldV (w : World) (N : Nat) (s1 : Option Addr) (n1 c1 : Nat) (s2 : Option Addr) (n2 c2 : Nat) (L1 L2 : List (Int × Int)) (A : Option Addr) (V : List Int) (W : World) : Prop where
  held : Held w N s1 n1 c1 s2 n2 c2 L1 L2 W
  vic : Slots W A V
section
variable {w W V : World} {N : Nat} {s1 s2 A A2 : Option Addr} {n1 n2 c1 c2 n c m d : Nat} {L1 L2 : List (Int × Int)} {v : List Int} {count bytes : Int}
theorem HeldV.step (z : HeldV w N s1 n1 c1 s2 n2 c2 L1 L2 A v W) (b : Below W.heap.size W V) : HeldV w N s1 n1 c1 s2 n2 c2 L1 L2 A v V := ⟨z.held.step b, z.vic.below b (Nat.le_refl _)⟩
theorem HeldV.drew (z : HeldV w N s1 n1 c1 s2 n2 c2 L1 L2 A v W) : HeldV w N s1 n1 c1 s2 n2 c2 L1 L2 A v W.drew := z.step (Below.refl _ _).drew
theorem HeldV.both (z : HeldV w N s1 n1 c1 s2 n2 c2 L1 L2 A v W) : HeldV w N s1 n1 c1 s2 n2 c2 L1 L2 A v W ∧ W.cell? ⟨N, 0, none⟩ = some (.slice s1 n1 c1) ∧ W.cell? ⟨N, 1, none⟩ = some (.slice s2 n2 c2) := ⟨z, z.held.cellA, z.held.cellB⟩
theorem own_cap {B e k : Nat} {xs : List Value} (h : W.ownsRow B e k (.slice A n c) n xs) : n ≤ c := by
  obtain ⟨_, ⟨q, _⟩ | ⟨_, _, _, q, _, _, q5, _⟩⟩ := h
  · simp at q; omega
  · simp at q; omega
theorem h_choose (z : Held w N s1 n1 c1 s2 n2 c2 L1 L2 W) (h1 : L1.length = n1) (h2 : L2.length = n2) (h3 : n1 + n2 ≤ 500) (hf : FairL (L1 ++ L2)) (hc : 0 ≤ count) (hb : 0 ≤ bytes) (hV : victimsL (L1 ++ L2) 4294967295 count bytes = v) (hn : v.length = n) :
    Calls Try.prog 19 #[.slice s1 n1 c1, .slice s2 n2 c2, .int .u32 4294967295, .int .i64 count, .int .i64 bytes] W fun e w' => ∃ A c, e = .returned (.tuple #[.slice A n c, .int .i64 0]) ∧ n ≤ c ∧ HeldV w N s1 n1 c1 s2 n2 c2 L1 L2 A v w' := by
  have hok : okC count bytes (L1 ++ L2) = true := by unfold okC; exact decide_eq_true ⟨hf, hc, hb⟩
  obtain ⟨r1, r2⟩ := ok_res (k := 4294967295) hok
  refine (Choose_is (c1 := c1) (c2 := c2) (k := 4294967295) (count := count) (bytes := bytes) z.e1 z.e2 h1 h2 h3).mono ?_
  rintro e w' ⟨A, n', c, q1, rfl, q3, q4⟩
  rw [r1, hV, hn] at q1
  subst q1
  rw [r1, hV] at q3
  rw [r2]
  exact ⟨A, c, rfl, own_cap q3, z.step q4, (Slots.of_owns q3).2⟩
theorem h_choose2 {cc bb : Int} (z : HeldV w N s1 n1 c1 s2 n2 c2 L1 L2 A v W) (h1 : L1.length = n1) (h2 : L2.length = n2) (h3 : n1 + n2 ≤ 500) (hf : FairL (L1 ++ L2)) (hV : victimsL (L1 ++ L2) 4294967295 count bytes = v) (hn : v.length = n) (hc : 0 ≤ cc) (hb : 0 ≤ bb) (hc2 : cc ≤ count) (hb2 : bb ≤ bytes) :
    Calls Try.prog 19 #[.slice s1 n1 c1, .slice s2 n2 c2, .int .u32 4294967295, .int .i64 cc, .int .i64 bb] W fun e w' => ∃ A2 m d, e = .returned (.tuple #[.slice A2 m d, .int .i64 0]) ∧ m ≤ d ∧ n ≤ m ∧ m ≤ 500 ∧ Slots w' A2 v ∧ HeldV w N s1 n1 c1 s2 n2 c2 L1 L2 A v w' := by
  obtain ⟨p1, p2⟩ := victims_prefix (l := L1 ++ L2) (keep := 4294967295) hc2 hb2
  have p3 : (victimsL (L1 ++ L2) 4294967295 cc bb).length ≤ 500 := by rw [victimsL_length]; exact Nat.le_trans (many_le _ _ _ _) (Nat.le_trans (orderL_length _ _) (by rw [List.length_append, h1, h2]; exact h3))
  rw [hV, hn] at p1 p2
  have hok : okC cc bb (L1 ++ L2) = true := by unfold okC; exact decide_eq_true ⟨hf, hc, hb⟩
  obtain ⟨r1, r2⟩ := ok_res (k := 4294967295) hok
  refine (Choose_is (c1 := c1) (c2 := c2) (k := 4294967295) (count := cc) (bytes := bb) z.held.e1 z.held.e2 h1 h2 h3).mono ?_
  rintro e w' ⟨A2, m, d, q1, rfl, q3, q4⟩
  rw [r1] at q1 q3
  rw [r2]
  refine ⟨A2, m, d, rfl, own_cap q3, by omega, by omega, ?_, z.step q4⟩
  rw [p2]
  exact (Slots.of_owns q3).2.take n
theorem h_same20 (z : HeldV w N s1 n1 c1 s2 n2 c2 L1 L2 A v W) (h2 : Slots W A2 v) (hn : v.length = n) (h5 : n ≤ 500) :
    Calls Try.prog 20 #[.slice A n c, .slice A2 n d] W fun e w' => e = .returned (.bool true) ∧ HeldV w N s1 n1 c1 s2 n2 c2 L1 L2 A v w' :=
  (same_slotsB true ⟨fun _ => rfl, fun _ => rfl⟩ (c1 := c) (c2 := d) z.vic h2 hn hn (by omega) (by omega)).mono fun e w' h => ⟨h.1, z.step h.2⟩
theorem h_within (z : HeldV w N s1 n1 c1 s2 n2 c2 L1 L2 A v W) (h1 : L1.length = n1) (h2 : L2.length = n2) (h3 : n1 + n2 ≤ 500) (hf : FairL (L1 ++ L2)) (hc : 0 ≤ count) (hb : 0 ≤ bytes) (hV : victimsL (L1 ++ L2) 4294967295 count bytes = v) (hn : v.length = n) (h5 : n ≤ 500) :
    Calls Try.prog 21 #[.agg #[.slice s1 n1 c1, .slice s2 n2 c2], .slice A n c, .int .i64 count, .int .i64 bytes] W fun e w' => e = .returned (.bool true) ∧ HeldV w N s1 n1 c1 s2 n2 c2 L1 L2 A v w' := by
  obtain ⟨q, _⟩ := victims_within hf hc hb
  rw [hV] at q
  refine (within_is (c1 := c1) (c2 := c2) (c3 := c) (count := count) (bytes := bytes) z.held.e1 z.held.e2 z.vic h1 h2 h3 hn (by omega) hf.1).mono ?_
  rintro e w' ⟨rfl, b⟩
  exact ⟨by rw [decide_eq_true q], z.step b⟩
theorem h_less (z : HeldV w N s1 n1 c1 s2 n2 c2 L1 L2 A v W) (h1 : L1.length = n1) (h2 : L2.length = n2) (h3 : n1 + n2 ≤ 500) (hf : FairL (L1 ++ L2)) (hc : 0 ≤ count) (hb : 0 ≤ bytes) (hV : victimsL (L1 ++ L2) 4294967295 count bytes = v) (hn : v.length = n + 1) (h5 : n ≤ 500) :
    Calls Try.prog 21 #[.agg #[.slice s1 n1 c1, .slice s2 n2 c2], .slice A n c, .int .i64 count, .int .i64 bytes] W fun e w' => e = .returned (.bool false) ∧ HeldV w N s1 n1 c1 s2 n2 c2 L1 L2 A v w' := by
  obtain ⟨_, q⟩ := victims_within hf hc hb
  rw [hV] at q
  refine (within_is (c1 := c1) (c2 := c2) (c3 := c) (count := count) (bytes := bytes) z.held.e1 z.held.e2 (z.vic.take n) h1 h2 h3 (by rw [List.length_take, hn]; omega) (by omega) hf.1).mono ?_
  rintro e w' ⟨rfl, b⟩
  exact ⟨by rw [decide_eq_false (q n hn)], z.step b⟩
end
set_option maxRecDepth 100000 in
set_option maxHeartbeats 8000000 in
theorem victimHolds_walk (s1 : Option Addr) (n1 c1 : Nat) (s2 : Option Addr) (n2 c2 : Nat) (L1 L2 : List (Int × Int)) (count bytes fewer less : Int) (w : World) (h1 : L1.length = n1) (h2 : L2.length = n2) (hE1 : Ents w s1 L1) (hE2 : Ents w s2 L2) (w1 : (Lit.int .i64 count).wf = true) (w2 : (Lit.int .i64 bytes).wf = true) (w3 : (Lit.int .u8 fewer).wf = true) (w4 : (Lit.int .u8 less).wf = true) :
    Calls Try.prog 6 #[.agg #[.slice s1 n1 c1, .slice s2 n2 c2], .int .i64 count, .int .i64 bytes, .int .u8 fewer, .int .u8 less] w fun e w' => e = .returned (.bool true) ∧ Below w.heap.size w w' := by
  have z0 := Held.start (c1 := c1) (c2 := c2) (n1 := n1) (n2 := n2) hE1 hE2
  have hw1 : count ≤ 9223372036854775807 := (i64_bounds w1).2
  have hw2 : bytes ≤ 9223372036854775807 := (i64_bounds w2).2
  have hw3 : 0 ≤ fewer ∧ fewer ≤ 255 := u8_bounds w3
  have hw4 : 0 ≤ less ∧ less ≤ 255 := u8_bounds w4
  clear hE1 hE2 w1 w2 w3 w4
  by_cases hfew : n1 ≤ 60 ∧ n2 ≤ 60
  · obtain ⟨f1, f2⟩ := hfew
    have h3 : n1 + n2 ≤ 500 := by omega
    have H1 := Lib.hid h1
    have H2 := Lib.hid h2
    clear h1 h2
    by_cases hok : okC count bytes (L1 ++ L2) = true
    · obtain ⟨hf, hc, hb⟩ := ok_parts hok
      have hc' : ¬ (count < 0) := by omega
      have hb' : ¬ (bytes < 0) := by omega
      have Hf := Lib.hid hf
      obtain ⟨v, hV⟩ : ∃ v, victimsL (L1 ++ L2) 4294967295 count bytes = v := ⟨_, rfl⟩
      obtain ⟨n, hn⟩ : ∃ n, v.length = n := ⟨_, rfl⟩
      have hn5 : n ≤ 500 := by rw [← hn, ← hV, victimsL_length]; exact Nat.le_trans (many_le _ _ _ _) (Nat.le_trans (orderL_length _ _) (by rw [List.length_append, H1.out, H2.out]; exact h3))
      have HV := Lib.hid hV
      have Hn := Lib.hid hn
      have Hc := Lib.hid hc
      have Hb := Lib.hid hb
      clear hok hf hV hn
      obtain ⟨hw31, hw32⟩ := hw3
      obtain ⟨hw41, hw42⟩ := hw4
      go_enter Try.func6, Try.ntmps6
      go_upto_region 1 with fail
      refine wp_seen _ z0 ?_
      clear z0
      rintro w0 z
      have m1 := z.cellA
      have m2 := z.cellB
      generalize w.heap.size = N at *
      go_upto_region 4 with (first | (go_at_call 7; refine (h_few (by assumption) f1 f2).mono ?_; rintro e w1 ⟨rfl, z1⟩; have m3 := z1.cellA; have m4 := z1.cellB) | (go_at_call 10; refine (h_fairT (by assumption) H1.out H2.out h3 Hf.out).mono ?_; rintro e w2 ⟨rfl, z2⟩; have m5 := z2.cellA; have m6 := z2.cellB) | (go_at_call 19; refine (h_choose (by assumption) H1.out H2.out h3 Hf.out Hc.out Hb.out HV.out Hn.out).mono ?_; rintro e w3 ⟨A, c, rfl, hnc, z3⟩; obtain ⟨_, m7, m8⟩ := z3.both))
      clear z z1 z2 m1 m2 m3 m4 m5 m6
      go_cut [13, 14] (fun x13 x14 wx => ∃ A2 m d, x13 = .slice A2 m d ∧ x14 = .int .i64 0 ∧ m ≤ d ∧ n ≤ m ∧ m ≤ 500 ∧ Slots wx A2 v ∧ HeldV w N s1 n1 c1 s2 n2 c2 L1 L2 A v wx)
      case first =>
        go_wp2_with (first | (go_at_call 19; refine (h_choose2 (by assumption) H1.out H2.out h3 Hf.out HV.out Hn.out (by omega) (by omega) (by omega) (by omega)).mono ?_; rintro e w4 ⟨A2, m, d, rfl, hmd, hnm, hm5, eA, z4⟩))
        all_goals go_meet
        all_goals (case rel => exact ⟨A2, m, d, rfl, rfl, hmd, hnm, hm5, eA, z4⟩)
      case rest =>
        obtain ⟨A2, m, d, rfl, rfl, hmd, hnm, hm5, eA, z4⟩ := hcut
        clear m7 m8 z3
        go_upto_region 7 with (first | (go_at_call 20; refine (h_same20 (by assumption) eA Hn.out hn5).mono ?_; rintro e w5 ⟨rfl, z5⟩))
        obtain ⟨_, q1, q2⟩ := z5.both
        clear z4 eA
        rcases Nat.eq_zero_or_pos n with h0 | h0
        · have hd : decide (0 < n) = false := decide_eq_false (by omega)
          clear h0
          refine wp_region_held_drew (S := fun W => HeldV w N s1 n1 c1 s2 n2 c2 L1 L2 A v W ∧ W.cell? ⟨N, 0, none⟩ = some (.slice s1 n1 c1) ∧ W.cell? ⟨N, 1, none⟩ = some (.slice s2 n2 c2)) (by kernel_rfl) z5.drew.both (fun hHeld => ?_)
          refine wpAnyH_take (i := 0) (v := ?_) rfl (by kernel_rfl) (by kernel_rfl) (by kernel_rfl) (fun _ _ _ h => h) (Or.inl ⟨by kernel_rfl, ?_⟩) (by assumption) ?_
          rotate_left
          focus (intro wS hSw; (try dsimp only at hSw); go_simp; try with_reducible rfl)
          try simp only [Act.put, List.getElem_toArray, List.getElem_cons_zero, List.setIfInBounds_toArray, List.set_cons_zero, List.set_cons_succ]
          refine wpAnyH_take (i := 1) (v := ?_) rfl (by kernel_rfl) (by kernel_rfl) (by kernel_rfl) (fun _ _ _ h => h) (Or.inl ⟨by kernel_rfl, ?_⟩) (by assumption) ?_
          rotate_left
          focus (intro wS hSw; (try dsimp only at hSw); go_simp; try with_reducible rfl)
          try simp only [Act.put, List.getElem_toArray, List.getElem_cons_succ, List.getElem_cons_zero, List.setIfInBounds_toArray, List.set_cons_zero, List.set_cons_succ]
          refine wpAnyH_take (i := 2) (v := ?_) rfl (by kernel_rfl) (by kernel_rfl) (by kernel_rfl) (fun _ _ _ h => h) (Or.inl ⟨by kernel_rfl, ?_⟩) (by assumption) ?_
          rotate_left
          focus (intro wS hSw; (try dsimp only at hSw); go_simp; try with_reducible rfl)
          try simp only [Act.put, List.getElem_toArray, List.getElem_cons_succ, List.getElem_cons_zero, List.setIfInBounds_toArray, List.set_cons_zero, List.set_cons_succ]
          refine wpAnyH_take (i := 3) (v := ?_) rfl (by kernel_rfl) (by kernel_rfl) (by kernel_rfl) (fun _ _ _ h => h) (Or.inl ⟨by kernel_rfl, ?_⟩) (by assumption) ?_
          rotate_left
          focus (intro wS hSw; (try dsimp only at hSw); go_simp; try with_reducible rfl)
          try simp only [Act.put, List.getElem_toArray, List.getElem_cons_succ, List.getElem_cons_zero, List.setIfInBounds_toArray, List.set_cons_zero, List.set_cons_succ]
          refine wpAnyH_ready (rs := [4]) (by kernel_rfl) (by simp) ?_
          refine AllReadyH.cons rfl (fun K hK => ?_) AllReadyH.nil
          go_simp
          go_at_call 21
          refine (h_within z5.drew H1.out H2.out h3 Hf.out Hc.out Hb.out HV.out Hn.out hn5).mono ?_
          rintro e w6 ⟨rfl, z6⟩
          have z7 := z6.held
          go_wp2_with fail
          refine hK.out _ _ z6.both (fun hHeld6 => ?_)
          clear hK K hHeld
          try simp only [Act.put, List.getElem_toArray, List.getElem_cons_succ, List.getElem_cons_zero, List.setIfInBounds_toArray, List.set_cons_zero, List.set_cons_succ]
          refine wpAnyH_take (i := 5) (v := ?_) rfl (by kernel_rfl) (by kernel_rfl) (by kernel_rfl) (fun _ _ _ h => h) (Or.inl ⟨by kernel_rfl, ?_⟩) (by assumption) ?_
          rotate_left
          focus (intro wS hSw; (try dsimp only at hSw); go_simp; try with_reducible rfl)
          try simp only [Act.put, List.getElem_toArray, List.getElem_cons_succ, List.getElem_cons_zero, List.setIfInBounds_toArray, List.set_cons_zero, List.set_cons_succ]
          refine wpAnyH_take (i := 6) (v := ?_) rfl (by kernel_rfl) (by kernel_rfl) (by kernel_rfl) (fun _ _ _ h => h) (Or.inl ⟨by kernel_rfl, ?_⟩) (by assumption) ?_
          rotate_left
          focus (intro wS hSw; (try dsimp only at hSw); go_simp; try with_reducible rfl)
          try simp only [Act.put, List.getElem_toArray, List.getElem_cons_succ, List.getElem_cons_zero, List.setIfInBounds_toArray, List.set_cons_zero, List.set_cons_succ]
          refine wpAnyH_take (i := 7) (v := ?_) rfl (by kernel_rfl) (by kernel_rfl) (by kernel_rfl) (fun _ _ _ h => h) (Or.inl ⟨by kernel_rfl, ?_⟩) (by assumption) ?_
          rotate_left
          focus (intro wS hSw; (try dsimp only at hSw); go_simp; try with_reducible rfl)
          try simp only [Act.put, List.getElem_toArray, List.getElem_cons_succ, List.getElem_cons_zero, List.setIfInBounds_toArray, List.set_cons_zero, List.set_cons_succ]
          refine wpAnyH_take (i := 8) (v := ?_) rfl (by kernel_rfl) (by kernel_rfl) (by kernel_rfl) (fun _ _ _ h => h) (Or.inl ⟨by kernel_rfl, ?_⟩) (by assumption) ?_
          rotate_left
          focus (intro wS hSw; (try dsimp only at hSw); go_simp; try with_reducible rfl)
          try simp only [Act.put, List.getElem_toArray, List.getElem_cons_succ, List.getElem_cons_zero, List.setIfInBounds_toArray, List.set_cons_zero, List.set_cons_succ]
          refine wpAnyH_take (i := 9) (v := ?_) rfl (by kernel_rfl) (by kernel_rfl) (by kernel_rfl) (fun _ _ _ h => h) (Or.inl ⟨by kernel_rfl, ?_⟩) (by assumption) ?_
          rotate_left
          focus (intro wS hSw; (try dsimp only at hSw); go_simp; try with_reducible rfl)
          try simp only [Act.put, List.getElem_toArray, List.getElem_cons_succ, List.getElem_cons_zero, List.setIfInBounds_toArray, List.set_cons_zero, List.set_cons_succ]
          refine wpAnyH_take (i := 10) (v := ?_) rfl (by kernel_rfl) (by kernel_rfl) (by kernel_rfl) (fun _ _ _ h => h) (Or.inl ⟨by kernel_rfl, ?_⟩) (by assumption) ?_
          rotate_left
          focus (intro wS hSw; (try dsimp only at hSw); go_simp; try with_reducible rfl)
          try simp only [Act.put, List.getElem_toArray, List.getElem_cons_succ, List.getElem_cons_zero, List.setIfInBounds_toArray, List.set_cons_zero, List.set_cons_succ]
          refine wpAnyH_take (i := 11) (v := undef) rfl (by kernel_rfl) (by kernel_rfl) (by kernel_rfl) (fun _ _ _ h => h) (Or.inr ⟨by kernel_rfl, rfl⟩) (by assumption) ?_
          try simp only [Act.put, List.getElem_toArray, List.getElem_cons_succ, List.getElem_cons_zero, List.setIfInBounds_toArray, List.set_cons_zero, List.set_cons_succ]
          refine wpAnyH_take (i := 12) (v := undef) rfl (by kernel_rfl) (by kernel_rfl) (by kernel_rfl) (fun _ _ _ h => h) (Or.inr ⟨by kernel_rfl, rfl⟩) (by assumption) ?_
          try simp only [Act.put, List.getElem_toArray, List.getElem_cons_succ, List.getElem_cons_zero, List.setIfInBounds_toArray, List.set_cons_zero, List.set_cons_succ]
          refine wpAnyH_take (i := 13) (v := undef) rfl (by kernel_rfl) (by kernel_rfl) (by kernel_rfl) (fun _ _ _ h => h) (Or.inr ⟨by kernel_rfl, rfl⟩) (by assumption) ?_
          try simp only [Act.put, List.getElem_toArray, List.getElem_cons_succ, List.getElem_cons_zero, List.setIfInBounds_toArray, List.set_cons_zero, List.set_cons_succ]
          refine wpAnyH_take (i := 14) (v := undef) rfl (by kernel_rfl) (by kernel_rfl) (by kernel_rfl) (fun _ _ _ h => h) (Or.inr ⟨by kernel_rfl, rfl⟩) (by assumption) ?_
          try simp only [Act.put, List.getElem_toArray, List.getElem_cons_succ, List.getElem_cons_zero, List.setIfInBounds_toArray, List.set_cons_zero, List.set_cons_succ]
          refine wpAnyH_take (i := 15) (v := undef) rfl (by kernel_rfl) (by kernel_rfl) (by kernel_rfl) (fun _ _ _ h => h) (Or.inr ⟨by kernel_rfl, rfl⟩) (by assumption) ?_
          try simp only [Act.put, List.getElem_toArray, List.getElem_cons_succ, List.getElem_cons_zero, List.setIfInBounds_toArray, List.set_cons_zero, List.set_cons_succ]
          refine wpAnyH_take (i := 16) (v := undef) rfl (by kernel_rfl) (by kernel_rfl) (by kernel_rfl) (fun _ _ _ h => h) (Or.inr ⟨by kernel_rfl, rfl⟩) (by assumption) ?_
          try simp only [Act.put, List.getElem_toArray, List.getElem_cons_succ, List.getElem_cons_zero, List.setIfInBounds_toArray, List.set_cons_zero, List.set_cons_succ]
          refine wpAnyH_take (i := 17) (v := undef) rfl (by kernel_rfl) (by kernel_rfl) (by kernel_rfl) (fun _ _ _ h => h) (Or.inr ⟨by kernel_rfl, rfl⟩) (by assumption) ?_
          try simp only [Act.put, List.getElem_toArray, List.getElem_cons_succ, List.getElem_cons_zero, List.setIfInBounds_toArray, List.set_cons_zero, List.set_cons_succ]
          refine wpAnyH_take (i := 18) (v := undef) rfl (by kernel_rfl) (by kernel_rfl) (by kernel_rfl) (fun _ _ _ h => h) (Or.inr ⟨by kernel_rfl, rfl⟩) (by assumption) ?_
          try simp only [Act.put, List.getElem_toArray, List.getElem_cons_succ, List.getElem_cons_zero, List.setIfInBounds_toArray, List.set_cons_zero, List.set_cons_succ]
          refine wpAnyH_take (i := 19) (v := undef) rfl (by kernel_rfl) (by kernel_rfl) (by kernel_rfl) (fun _ _ _ h => h) (Or.inr ⟨by kernel_rfl, rfl⟩) (by assumption) ?_
          try simp only [Act.put, List.getElem_toArray, List.getElem_cons_succ, List.getElem_cons_zero, List.setIfInBounds_toArray, List.set_cons_zero, List.set_cons_succ]
          refine wpAnyH_take (i := 20) (v := ?_) rfl (by kernel_rfl) (by kernel_rfl) (by kernel_rfl) (fun _ _ _ h => h) (Or.inl ⟨by kernel_rfl, ?_⟩) (by assumption) ?_
          rotate_left
          focus (intro wS hSw; (try dsimp only at hSw); go_simp; try with_reducible rfl)
          try simp only [Act.put, List.getElem_toArray, List.getElem_cons_succ, List.getElem_cons_zero, List.setIfInBounds_toArray, List.set_cons_zero, List.set_cons_succ]
          refine wpAnyH_take (i := 21) (v := ?_) rfl (by kernel_rfl) (by kernel_rfl) (by kernel_rfl) (fun _ _ _ h => h) (Or.inl ⟨by kernel_rfl, ?_⟩) (by assumption) ?_
          rotate_left
          focus (intro wS hSw; (try dsimp only at hSw); go_simp; try with_reducible rfl)
          try simp only [Act.put, List.getElem_toArray, List.getElem_cons_succ, List.getElem_cons_zero, List.setIfInBounds_toArray, List.set_cons_zero, List.set_cons_succ]
          refine wpAnyH_done (by kernel_rfl) ?_ _
          try simp only [Act.put, List.getElem_toArray, List.getElem_cons_succ, List.getElem_cons_zero, List.setIfInBounds_toArray, List.set_cons_zero, List.set_cons_succ]
          all_goals go_wp2_with (first | (go_at_call 8; refine (h_known (by assumption)).mono ?_; rintro e w8 ⟨rfl, z8, b8⟩))
          all_goals go_ret
          all_goals exact ⟨rfl, Held.done (by assumption)⟩
        · have hd : decide (0 < n) = true := decide_eq_true h0
          have g1 : IntKind.i64.wrap ((n : Int) - 1) = ((n - 1 : Nat) : Int) := by rw [IntKind.wrap_i64]; omega
          have g2 : n - 1 ≤ c := by omega
          have Hn1 := Lib.hid (show v.length = (n - 1) + 1 by rw [Hn.out]; omega)
          clear h0
          have T0 := Lib.hid (rfl : 0 = 0)
          go_region_held3 (fun W => HeldV w N s1 n1 c1 s2 n2 c2 L1 L2 A v W ∧ W.cell? ⟨N, 0, none⟩ = some (.slice s1 n1 c1) ∧ W.cell? ⟨N, 1, none⟩ = some (.slice s2 n2 c2)) (first | assumption | exact HeldV.both (by assumption) | exact z5.drew.both) (first | (go_at_call 21; clear T0; refine (h_within (by first | assumption | exact z5.drew) H1.out H2.out h3 Hf.out Hc.out Hb.out HV.out Hn.out hn5).mono ?_; rintro e w6 ⟨rfl, z6⟩) | (go_at_call 21; refine (h_less (n := n - 1) (by assumption) H1.out H2.out h3 Hf.out Hc.out Hb.out HV.out Hn1.out (by omega)).mono ?_; rintro e w6 ⟨rfl, z6⟩; have z7 := z6.held))
          all_goals go_wp2_with (first | (go_at_call 8; refine (h_known (by assumption)).mono ?_; rintro e w8 ⟨rfl, z8, b8⟩))
          all_goals go_ret
          all_goals exact ⟨rfl, Held.done (by assumption)⟩
    · rcases not_ok hok with hf | ⟨hf, hc⟩ | ⟨hf, hc, hb⟩
      · have Hf := Lib.hid hf
        clear hok hf
        go_enter Try.func6, Try.ntmps6
        go_upto_region 1 with fail
        refine wp_seen _ z0 ?_
        clear z0
        rintro w0 z
        have m1 := z.cellA
        have m2 := z.cellB
        generalize w.heap.size = N at *
        go_wp2_with (first | (go_at_call 7; refine (h_few (by assumption) f1 f2).mono ?_; rintro e w1 ⟨rfl, z1⟩; have m3 := z1.cellA; have m4 := z1.cellB) | (go_at_call 10; refine (h_fairF (by assumption) H1.out H2.out h3 Hf.out).mono ?_; rintro e w2 ⟨rfl, z2⟩) | (go_at_call 8; refine (h_known (by assumption)).mono ?_; rintro e w5 ⟨rfl, z5, b5⟩))
        go_ret
        exact ⟨rfl, z5.done⟩
      · have Hf := Lib.hid hf
        clear hok hf
        go_enter Try.func6, Try.ntmps6
        go_upto_region 1 with fail
        refine wp_seen _ z0 ?_
        clear z0
        rintro w0 z
        have m1 := z.cellA
        have m2 := z.cellB
        generalize w.heap.size = N at *
        go_wp2_with (first | (go_at_call 7; refine (h_few (by assumption) f1 f2).mono ?_; rintro e w1 ⟨rfl, z1⟩; have m3 := z1.cellA; have m4 := z1.cellB) | (go_at_call 10; refine (h_fairT (by assumption) H1.out H2.out h3 Hf.out).mono ?_; rintro e w2 ⟨rfl, z2⟩) | (go_at_call 8; refine (h_known (by assumption)).mono ?_; rintro e w5 ⟨rfl, z5, b5⟩))
        go_ret
        exact ⟨rfl, z5.done⟩
      · have Hf := Lib.hid hf
        have hc' : ¬ (count < 0) := by omega
        clear hok hf
        go_enter Try.func6, Try.ntmps6
        go_upto_region 1 with fail
        refine wp_seen _ z0 ?_
        clear z0
        rintro w0 z
        have m1 := z.cellA
        have m2 := z.cellB
        generalize w.heap.size = N at *
        go_wp2_with (first | (go_at_call 7; refine (h_few (by assumption) f1 f2).mono ?_; rintro e w1 ⟨rfl, z1⟩; have m3 := z1.cellA; have m4 := z1.cellB) | (go_at_call 10; refine (h_fairT (by assumption) H1.out H2.out h3 Hf.out).mono ?_; rintro e w2 ⟨rfl, z2⟩) | (go_at_call 8; refine (h_known (by assumption)).mono ?_; rintro e w5 ⟨rfl, z5, b5⟩))
        go_ret
        exact ⟨rfl, z5.done⟩
  · clear h1 h2
    go_enter Try.func6, Try.ntmps6
    go_upto_region 1 with fail
    refine wp_seen _ z0 ?_
    clear z0
    rintro w0 z
    have m1 := z.cellA
    have m2 := z.cellB
    generalize w.heap.size = N at *
    go_wp2_with (first | (go_at_call 7; refine (h_fewNot (by assumption) hfew).mono ?_; rintro e w1 ⟨rfl, z1⟩) | (go_at_call 8; refine (h_known (by assumption)).mono ?_; rintro e w5 ⟨rfl, z5, b5⟩))
    go_ret
    exact ⟨rfl, z5.done⟩
end Go.Proofs.Yteibleghnadelaa
