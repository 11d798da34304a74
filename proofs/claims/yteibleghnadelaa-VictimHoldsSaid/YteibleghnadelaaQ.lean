/-
  The contracts of the law's orders, chooses and checks.
-/
import Derived.Test.YteibleghnadelaaP
namespace Go.Proofs.Yteibleghnadelaa
open Go.ChangeShapes Go.WideShapes Go.ChangeAt Go.RowKit
set_option linter.unusedVariables false

theorem same_entsB {s1 s2 : Option Addr} {n1 c1 n2 c2 : Nat} {A B : List (Int × Int)} {w : World} (b : Bool) (hq : b = true ↔ A = B) (hA : Ents w s1 A) (hB : Ents w s2 B) (h1 : A.length = n1) (h2 : B.length = n2) (h3 : n1 ≤ 1000) (h4 : n2 ≤ 1000) :
    Calls Try.prog 12 #[.slice s1 n1 c1, .slice s2 n2 c2] w fun e w' => e = .returned (.bool b) ∧ Below w.heap.size w w' := by
  refine (same_ents (c1 := c1) (c2 := c2) hA hB h1 h2 h3 h4).mono ?_
  rintro e w' ⟨rfl, b1⟩
  refine ⟨ret_bool ?_, b1⟩
  cases b <;> simp at hq <;> simp [hq]
theorem same_slotsB {s1 s2 : Option Addr} {n1 c1 n2 c2 : Nat} {A B : List Int} {w : World} (b : Bool) (hq : b = true ↔ A = B) (hA : Slots w s1 A) (hB : Slots w s2 B) (h1 : A.length = n1) (h2 : B.length = n2) (h3 : n1 ≤ 1000) (h4 : n2 ≤ 1000) :
    Calls Try.prog 20 #[.slice s1 n1 c1, .slice s2 n2 c2] w fun e w' => e = .returned (.bool b) ∧ Below w.heap.size w w' := by
  refine (same_slots2 (c1 := c1) (c2 := c2) hA hB h1 h2 h3 h4).mono ?_
  rintro e w' ⟨rfl, b1⟩
  refine ⟨ret_bool ?_, b1⟩
  cases b <;> simp at hq <;> simp [hq]
set_option maxHeartbeats 4000000 in
theorem orders_is {s1 s2 s3 : Option Addr} {n1 c1 n2 c2 n3 c3 : Nat} {k er : Int} {L1 L2 : List (Int × Int)} {T : List (Int × Int)} {w : World} (hE1 : Ents w s1 L1) (hE2 : Ents w s2 L2) (hE3 : Ents w s3 T) (h1 : L1.length = n1) (h2 : L2.length = n2) (h3 : n1 + n2 ≤ 500) (h4 : T.length = n3) (h5 : n3 ≤ 1000) :
    Calls Try.prog 13 #[.agg #[.slice s1 n1 c1, .slice s2 n2 c2], .int .u32 k, .slice s3 n3 c3, .int .i64 er] w fun e w' => e = .returned (.bool (decide (resO k (L1 ++ L2) = T ∧ errO (L1 ++ L2) = er))) ∧ Below w.heap.size w w' := by
  have b0 : Below w.heap.size w (w.alloc (.cells #[.slice s1 n1 c1, .slice s2 n2 c2] 24)) := (Below.refl _ _).alloc (Nat.le_refl _) _
  have C := Order_is (c1 := c1) (c2 := c2) (k := k) (hE1.below b0 (Nat.le_refl _)) (hE2.below b0 (Nat.le_refl _)) h1 h2 h3
  have hrl : (resO k (L1 ++ L2)).length ≤ 500 := by
    have := resO_length k (L1 ++ L2)
    rw [List.length_append, h1, h2] at this; omega
  generalize resO k (L1 ++ L2) = R at *
  generalize hlR : R.length = lr at *
  have HlR := Lib.hid hlR
  clear hlR
  generalize errO (L1 ++ L2) = er2 at *
  clear hE1 hE2 h1 h2 h3
  by_cases hR : R = T
  · by_cases her : er2 = er
    · rw [decide_eq_true (show R = T ∧ er2 = er from ⟨hR, her⟩)]
      have Hb := Lib.hid (show true = true ↔ R = T from ⟨fun _ => hR, fun _ => rfl⟩)
      clear hR
      subst her
      go_enter Try.func13, Try.ntmps13
      go_wp2_with (first | (go_at_call 11; refine C.mono ?_; clear C; rintro e w1 ⟨A, n, c, rfl, rfl, o1, b1⟩; have e1 := ((Ents.of_owns o1).2); have b2 := b0.trans (b1.mono b0.size); have e3 := hE3.below b2 (Nat.le_refl _); have D := same_entsB true Hb.out (c1 := c) (c2 := c3) e1 e3 HlR.out h4 (by omega) h5) | (go_at_call 12; refine D.mono ?_; clear D; rintro e w3 ⟨rfl, b3⟩))
      go_ret
      exact ⟨rfl, b2.trans (b3.mono b2.size)⟩
    · rw [decide_eq_false (fun q : R = T ∧ er2 = er => her q.2)]
      have Hb := Lib.hid (show true = true ↔ R = T from ⟨fun _ => hR, fun _ => rfl⟩)
      have her2 : (er2 == er) = false := beq_false_of_ne her
      have her3 : decide (er2 = er) = false := decide_eq_false her
      clear hR
      go_enter Try.func13, Try.ntmps13
      go_wp2_with (first | (go_at_call 11; refine C.mono ?_; clear C; rintro e w1 ⟨A, n, c, rfl, rfl, o1, b1⟩; have e1 := ((Ents.of_owns o1).2); have b2 := b0.trans (b1.mono b0.size); have e3 := hE3.below b2 (Nat.le_refl _); have D := same_entsB true Hb.out (c1 := c) (c2 := c3) e1 e3 HlR.out h4 (by omega) h5) | (go_at_call 12; refine D.mono ?_; clear D; rintro e w3 ⟨rfl, b3⟩))
      go_ret
      exact ⟨rfl, b2.trans (b3.mono b2.size)⟩
  · rw [decide_eq_false (fun q : R = T ∧ er2 = er => hR q.1)]
    have Hb := Lib.hid (show false = true ↔ R = T from ⟨fun q => (nomatch q), fun q => absurd q hR⟩)
    clear hR
    go_enter Try.func13, Try.ntmps13
    go_wp2_with (first | (go_at_call 11; refine C.mono ?_; clear C; rintro e w1 ⟨A, n, c, rfl, rfl, o1, b1⟩; have e1 := ((Ents.of_owns o1).2); have b2 := b0.trans (b1.mono b0.size); have e3 := hE3.below b2 (Nat.le_refl _); have D := same_entsB false Hb.out (c1 := c) (c2 := c3) e1 e3 HlR.out h4 (by omega) h5) | (go_at_call 12; refine D.mono ?_; clear D; rintro e w3 ⟨rfl, b3⟩))
    go_ret
    exact ⟨rfl, b2.trans (b3.mono b2.size)⟩
set_option maxHeartbeats 4000000 in
theorem chooses_is {s1 s2 s3 : Option Addr} {n1 c1 n2 c2 n3 c3 : Nat} {k count bytes er : Int} {L1 L2 : List (Int × Int)} {T : List Int} {w : World} (hE1 : Ents w s1 L1) (hE2 : Ents w s2 L2) (hE3 : Slots w s3 T) (h1 : L1.length = n1) (h2 : L2.length = n2) (h3 : n1 + n2 ≤ 500) (h4 : T.length = n3) (h5 : n3 ≤ 1000) :
    Calls Try.prog 15 #[.agg #[.slice s1 n1 c1, .slice s2 n2 c2], .int .u32 k, .int .i64 count, .int .i64 bytes, .slice s3 n3 c3, .int .i64 er] w fun e w' => e = .returned (.bool (decide (resC k count bytes (L1 ++ L2) = T ∧ errC count bytes (L1 ++ L2) = er))) ∧ Below w.heap.size w w' := by
  have b0 : Below w.heap.size w (w.alloc (.cells #[.slice s1 n1 c1, .slice s2 n2 c2] 24)) := (Below.refl _ _).alloc (Nat.le_refl _) _
  have C := Choose_is (c1 := c1) (c2 := c2) (k := k) (count := count) (bytes := bytes) (hE1.below b0 (Nat.le_refl _)) (hE2.below b0 (Nat.le_refl _)) h1 h2 h3
  have hrl : (resC k count bytes (L1 ++ L2)).length ≤ 500 := by
    have := resC_length k count bytes (L1 ++ L2)
    rw [List.length_append, h1, h2] at this; omega
  generalize resC k count bytes (L1 ++ L2) = R at *
  generalize hlR : R.length = lr at *
  have HlR := Lib.hid hlR
  clear hlR
  generalize errC count bytes (L1 ++ L2) = er2 at *
  clear hE1 hE2 h1 h2 h3
  by_cases hR : R = T
  · by_cases her : er2 = er
    · rw [decide_eq_true (show R = T ∧ er2 = er from ⟨hR, her⟩)]
      have Hb := Lib.hid (show true = true ↔ R = T from ⟨fun _ => hR, fun _ => rfl⟩)
      clear hR
      subst her
      go_enter Try.func15, Try.ntmps15
      go_wp2_with (first | (go_at_call 19; refine C.mono ?_; clear C; rintro e w1 ⟨A, n, c, rfl, rfl, o1, b1⟩; have e1 := ((Slots.of_owns o1).2); have b2 := b0.trans (b1.mono b0.size); have e3 := hE3.below b2 (Nat.le_refl _); have D := same_slotsB true Hb.out (c1 := c) (c2 := c3) e1 e3 HlR.out h4 (by omega) h5) | (go_at_call 20; refine D.mono ?_; clear D; rintro e w3 ⟨rfl, b3⟩))
      go_ret
      exact ⟨rfl, b2.trans (b3.mono b2.size)⟩
    · rw [decide_eq_false (fun q : R = T ∧ er2 = er => her q.2)]
      have Hb := Lib.hid (show true = true ↔ R = T from ⟨fun _ => hR, fun _ => rfl⟩)
      have her2 : (er2 == er) = false := beq_false_of_ne her
      have her3 : decide (er2 = er) = false := decide_eq_false her
      clear hR
      go_enter Try.func15, Try.ntmps15
      go_wp2_with (first | (go_at_call 19; refine C.mono ?_; clear C; rintro e w1 ⟨A, n, c, rfl, rfl, o1, b1⟩; have e1 := ((Slots.of_owns o1).2); have b2 := b0.trans (b1.mono b0.size); have e3 := hE3.below b2 (Nat.le_refl _); have D := same_slotsB true Hb.out (c1 := c) (c2 := c3) e1 e3 HlR.out h4 (by omega) h5) | (go_at_call 20; refine D.mono ?_; clear D; rintro e w3 ⟨rfl, b3⟩))
      go_ret
      exact ⟨rfl, b2.trans (b3.mono b2.size)⟩
  · rw [decide_eq_false (fun q : R = T ∧ er2 = er => hR q.1)]
    have Hb := Lib.hid (show false = true ↔ R = T from ⟨fun q => (nomatch q), fun q => absurd q hR⟩)
    clear hR
    go_enter Try.func15, Try.ntmps15
    go_wp2_with (first | (go_at_call 19; refine C.mono ?_; clear C; rintro e w1 ⟨A, n, c, rfl, rfl, o1, b1⟩; have e1 := ((Slots.of_owns o1).2); have b2 := b0.trans (b1.mono b0.size); have e3 := hE3.below b2 (Nat.le_refl _); have D := same_slotsB false Hb.out (c1 := c) (c2 := c3) e1 e3 HlR.out h4 (by omega) h5) | (go_at_call 20; refine D.mono ?_; clear D; rintro e w3 ⟨rfl, b3⟩))
    go_ret
    exact ⟨rfl, b2.trans (b3.mono b2.size)⟩
set_option maxHeartbeats 4000000 in
theorem checks_is {s1 s2 s3 : Option Addr} {n1 c1 n2 c2 n3 c3 : Nat} {k count bytes wn er : Int} {L1 L2 : List (Int × Int)} {T : List Int} {w : World} (hE1 : Ents w s1 L1) (hE2 : Ents w s2 L2) (hE3 : Slots w s3 T) (h1 : L1.length = n1) (h2 : L2.length = n2) (h3 : n1 + n2 ≤ 500) (h4 : T.length = n3) (h5 : n3 ≤ 500) :
    Calls Try.prog 17 #[.agg #[.slice s1 n1 c1, .slice s2 n2 c2], .int .u32 k, .int .i64 count, .int .i64 bytes, .slice s3 n3 c3, .int .i64 wn, .int .i64 er] w fun e w' => e = .returned (.bool (decide (resK k count bytes (L1 ++ L2) T = wn ∧ errC count bytes (L1 ++ L2) = er))) ∧ Below w.heap.size w w' := by
  have b0 : Below w.heap.size w (w.alloc (.cells #[.slice s1 n1 c1, .slice s2 n2 c2] 24)) := (Below.refl _ _).alloc (Nat.le_refl _) _
  have C := Check_is (c1 := c1) (c2 := c2) (c3 := c3) (k := k) (count := count) (bytes := bytes) (hE1.below b0 (Nat.le_refl _)) (hE2.below b0 (Nat.le_refl _)) (hE3.below b0 (Nat.le_refl _)) h1 h2 h3 h4 h5
  generalize resK k count bytes (L1 ++ L2) T = R at *
  generalize errC count bytes (L1 ++ L2) = er2 at *
  clear hE1 hE2 hE3 h1 h2 h3 h4 h5
  by_cases hR : R = wn
  · by_cases her : er2 = er
    · rw [decide_eq_true (show R = wn ∧ er2 = er from ⟨hR, her⟩)]
      subst her hR
      go_enter Try.func17, Try.ntmps17
      go_wp2_with (first | (go_at_call 27; refine C.mono ?_; clear C; rintro e w1 ⟨rfl, b1⟩))
      go_ret
      exact ⟨rfl, b0.trans (b1.mono b0.size)⟩
    · rw [decide_eq_false (fun q : R = wn ∧ er2 = er => her q.2)]
      have her2 : (er2 == er) = false := beq_false_of_ne her
      have her3 : decide (er2 = er) = false := decide_eq_false her
      subst hR
      go_enter Try.func17, Try.ntmps17
      go_wp2_with (first | (go_at_call 27; refine C.mono ?_; clear C; rintro e w1 ⟨rfl, b1⟩))
      go_ret
      exact ⟨rfl, b0.trans (b1.mono b0.size)⟩
  · rw [decide_eq_false (fun q : R = wn ∧ er2 = er => hR q.1)]
    have hR2 : (R == wn) = false := beq_false_of_ne hR
    go_enter Try.func17, Try.ntmps17
    go_wp2_with (first | (go_at_call 27; refine C.mono ?_; clear C; rintro e w1 ⟨rfl, b1⟩))
    go_ret
    exact ⟨rfl, b0.trans (b1.mono b0.size)⟩
end Go.Proofs.Yteibleghnadelaa
