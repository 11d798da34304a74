/-
  The contracts of Order, Choose and Check.
-/
import Derived.Test.YteibleghnadelaaH
namespace Go.Proofs.Yteibleghnadelaa
open Go.ChangeShapes Go.WideShapes Go.ChangeAt Go.RowKit
set_option linter.unusedVariables false

/-- What Order hands back. -/
def resO (k : Int) (L : List (Int × Int)) : List (Int × Int) := if FairL L then orderL k L else []
def errO (L : List (Int × Int)) : Int := if FairL L then 0 else 2
/-- What Choose hands back. -/
def okC (count bytes : Int) (L : List (Int × Int)) : Bool := decide (FairL L ∧ 0 ≤ count ∧ 0 ≤ bytes)
def resC (k count bytes : Int) (L : List (Int × Int)) : List Int := if okC count bytes L = true then victimsL L k count bytes else []
def errC (count bytes : Int) (L : List (Int × Int)) : Int := if okC count bytes L = true then 0 else 2
theorem resO_length (k : Int) (L : List (Int × Int)) : (resO k L).length ≤ L.length := by
  unfold resO; split
  · exact orderL_length k L
  · simp
theorem resC_length (k count bytes : Int) (L : List (Int × Int)) : (resC k count bytes L).length ≤ L.length := by
  unfold resC; split
  · rw [victimsL_length]; exact Nat.le_trans (many_le _ _ _ _) (orderL_length k L)
  · simp
theorem Order_is {s1 s2 : Option Addr} {n1 c1 n2 c2 : Nat} {k : Int} {L1 L2 : List (Int × Int)} {w : World} (hE1 : Ents w s1 L1) (hE2 : Ents w s2 L2) (h1 : L1.length = n1) (h2 : L2.length = n2) (h3 : n1 + n2 ≤ 500) :
    Calls Try.prog 11 #[.slice s1 n1 c1, .slice s2 n2 c2, .int .u32 k] w fun e w' => ∃ A n c, n = (resO k (L1 ++ L2)).length ∧ e = .returned (.tuple #[.slice A n c, .int .i64 (errO (L1 ++ L2))]) ∧ w'.ownsRow w.heap.size 34 2 (.slice A n c) n (entsL (resO k (L1 ++ L2))) ∧ Below w.heap.size w w' := by
  have C := of_is (c1 := c1) (c2 := c2) (k := k) hE1 hE2 h1 h2 h3
  have hlen : (L1 ++ L2).length ≤ 500 := by rw [List.length_append, h1, h2]; exact h3
  generalize L1 ++ L2 = L at *
  by_cases hf : FairL L
  · rw [show errO L = 0 by unfold errO; rw [if_pos hf], show resO k L = orderL k L by unfold resO; rw [if_pos hf]]
    have Hf := Lib.hid hf
    clear hf
    go_enter Try.func11, Try.ntmps11
    go_wp2_with (first | (go_at_call 24; refine C.mono ?_; clear C; rintro e w1 ⟨b1, ⟨_, s, c, rfl, eE, h0⟩ | ⟨q, _⟩⟩; rotate_left; exact absurd Hf.out q; have b2 : Below w1.heap.size w1 (w1.alloc (.cells #[.slice s L.length c, .int .u32 k] 53)) := (Below.refl _ _).alloc (Nat.le_refl _) _; have D := order_is (c := c) (k := k) (eE.below b2 (Nat.le_refl _)) rfl hlen h0) | (go_at_call 25; refine D.mono ?_; clear D; rintro e w3 ⟨v, rfl, o3, b3⟩))
    go_ret2
    obtain ⟨A, c9, rfl⟩ := own_shape o3
    exact ⟨A, _, c9, rfl, rfl, own_mono o3 (Nat.le_trans b1.size b2.size), b1.trans ((b2.mono b1.size).trans (b3.mono (Nat.le_trans b1.size b2.size)))⟩
  · rw [show errO L = 2 by unfold errO; rw [if_neg hf], show resO k L = [] by unfold resO; rw [if_neg hf]]
    have Hf := Lib.hid hf
    clear hf
    go_enter Try.func11, Try.ntmps11
    go_wp2_with (first | (go_at_call 24; refine C.mono ?_; clear C; rintro e w1 ⟨b1, ⟨q, _⟩ | ⟨_, rfl⟩⟩; exact absurd q Hf.out; have b2 : Below w1.heap.size w1 (w1.alloc (.cells #[.slice none 0 0, .int .u32 0] 53)) := (Below.refl _ _).alloc (Nat.le_refl _) _; have D := order_is (s := none) (n := 0) (c := 0) (k := 0) (L := []) (w := w1.alloc (.cells #[.slice none 0 0, .int .u32 0] 53)) Ents.nil rfl (by omega) (fun _ => ⟨rfl, rfl⟩)) | (go_at_call 25; refine D.mono ?_; clear D; rintro e w3 ⟨v, rfl, o3, b3⟩))
    go_ret2
    obtain ⟨A, c9, rfl⟩ := own_shape o3
    exact ⟨A, _, c9, rfl, rfl, own_mono o3 (Nat.le_trans b1.size b2.size), b1.trans ((b2.mono b1.size).trans (b3.mono (Nat.le_trans b1.size b2.size)))⟩
theorem Choose_is {s1 s2 : Option Addr} {n1 c1 n2 c2 : Nat} {k count bytes : Int} {L1 L2 : List (Int × Int)} {w : World} (hE1 : Ents w s1 L1) (hE2 : Ents w s2 L2) (h1 : L1.length = n1) (h2 : L2.length = n2) (h3 : n1 + n2 ≤ 500) :
    Calls Try.prog 19 #[.slice s1 n1 c1, .slice s2 n2 c2, .int .u32 k, .int .i64 count, .int .i64 bytes] w fun e w' => ∃ A n c, n = (resC k count bytes (L1 ++ L2)).length ∧ e = .returned (.tuple #[.slice A n c, .int .i64 (errC count bytes (L1 ++ L2))]) ∧ w'.ownsRow w.heap.size 25 1 (.slice A n c) n (slotsL (resC k count bytes (L1 ++ L2))) ∧ Below w.heap.size w w' := by
  have C := of_is (c1 := c1) (c2 := c2) (k := k) hE1 hE2 h1 h2 h3
  have hlen : (L1 ++ L2).length ≤ 500 := by rw [List.length_append, h1, h2]; exact h3
  generalize L1 ++ L2 = L at *
  by_cases hok : okC count bytes L = true
  · rw [show errC count bytes L = 0 by unfold errC; rw [if_pos hok], show resC k count bytes L = victimsL L k count bytes by unfold resC; rw [if_pos hok]]
    have hok2 : FairL L ∧ 0 ≤ count ∧ 0 ≤ bytes := by unfold okC at hok; exact of_decide_eq_true hok
    obtain ⟨hf, hc, hb⟩ := hok2
    have hc' : ¬ (count < 0) := by omega
    have hb' : ¬ (bytes < 0) := by omega
    have Hf := Lib.hid hf
    clear hf hok hc hb
    go_enter Try.func19, Try.ntmps19
    go_wp2_with (first | (go_at_call 24; refine C.mono ?_; clear C; rintro e w1 ⟨b1, ⟨_, s, c, rfl, eE, h0⟩ | ⟨q, _⟩⟩; rotate_left; exact absurd Hf.out q; have b2 : Below w1.heap.size w1 (w1.alloc (.cells #[.slice s L.length c, .int .u32 k] 53)) := (Below.refl _ _).alloc (Nat.le_refl _) _; have D := victims_is (c := c) (k := k) (count := count) (bytes := bytes) (eE.below b2 (Nat.le_refl _)) rfl hlen h0 Hf.out.1) | (go_at_call 28; refine D.mono ?_; clear D; rintro e w3 ⟨v, rfl, o3, b3⟩))
    go_ret2
    obtain ⟨A, c9, rfl⟩ := own_shape o3
    exact ⟨A, _, c9, (victimsL_length _ _ _ _).symm, rfl, own_mono o3 (Nat.le_trans b1.size b2.size), b1.trans ((b2.mono b1.size).trans (b3.mono (Nat.le_trans b1.size b2.size)))⟩
  · rw [show errC count bytes L = 2 by unfold errC; rw [if_neg hok], show resC k count bytes L = [] by unfold resC; rw [if_neg hok]]
    have hok2 : ¬ (FairL L ∧ 0 ≤ count ∧ 0 ≤ bytes) := fun q => hok (by unfold okC; exact decide_eq_true q)
    clear hok
    by_cases hf : FairL L
    · have Hf := Lib.hid hf
      clear hf
      by_cases hc : count < 0
      · go_enter Try.func19, Try.ntmps19
        go_wp2_with (first | (go_at_call 24; refine C.mono ?_; clear C; rintro e w1 ⟨b1, ⟨_, s, c, rfl, eE, h0⟩ | ⟨q, _⟩⟩; rotate_left; exact absurd Hf.out q))
        go_ret2
        exact ⟨none, 0, 0, rfl, rfl, World.ownsRow_nil _ _ _ _, b1.alloc b1.size _⟩
      · have hb : bytes < 0 := Decidable.byContradiction fun q => hok2 ⟨Hf.out, by omega, by omega⟩
        go_enter Try.func19, Try.ntmps19
        go_wp2_with (first | (go_at_call 24; refine C.mono ?_; clear C; rintro e w1 ⟨b1, ⟨_, s, c, rfl, eE, h0⟩ | ⟨q, _⟩⟩; rotate_left; exact absurd Hf.out q))
        go_ret2
        exact ⟨none, 0, 0, rfl, rfl, World.ownsRow_nil _ _ _ _, b1.alloc b1.size _⟩
    · have Hf := Lib.hid hf
      clear hf hok2
      go_enter Try.func19, Try.ntmps19
      go_wp2_with (first | (go_at_call 24; refine C.mono ?_; clear C; rintro e w1 ⟨b1, ⟨q, _⟩ | ⟨_, rfl⟩⟩; exact absurd q Hf.out))
      go_ret2
      exact ⟨none, 0, 0, rfl, rfl, World.ownsRow_nil _ _ _ _, b1.alloc b1.size _⟩
end Go.Proofs.Yteibleghnadelaa
