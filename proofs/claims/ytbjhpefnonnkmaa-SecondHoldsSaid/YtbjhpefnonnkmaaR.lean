/-
  The walk of SecondNew.
-/
import Derived.Test.YtbjhpefnonnkmaaQ
namespace Go.Proofs.Ytbjhpefnonnkmaa
open Go.ChangeShapes Go.WideShapes Go.ChangeAt Go.RowKit
set_option linter.unusedVariables false

theorem rnew_n (n : Nat) (h1 : 1 ≤ n) (h2 : n ≤ 1024) (w : World) : Calls Try.prog 15 #[.int .i64 (n : Nat)] w fun e w' => ∃ a cap, e = .returned (.tuple #[.agg #[.slice (some ⟨a, 0, none⟩) n cap, .int .i64 0], .int .i64 0]) ∧ Below w.heap.size w w' ∧ Row w' 78 a cap (List.replicate n Pl.no) := by
  refine (rnew_ok n h1 h2 w).mono ?_
  rintro e w' ⟨a, cap, he, hb, hr⟩
  rw [List.length_replicate] at he
  exact ⟨a, cap, he, hb, hr⟩
theorem secondNew_walk (a0 : Int) (w0 : (Lit.int .i64 a0).wf = true) (w : World) :
    Calls Try.prog 4 #[.int .i64 a0] w fun e w' => e = .returned (.bool true) ∧ Below w.heap.size w w' := by
  clear w0
  by_cases hok : 1 ≤ a0 ∧ a0 ≤ 1024
  · obtain ⟨n, rfl⟩ : ∃ n : Nat, a0 = (n : Int) := ⟨a0.toNat, by omega⟩
    have h1 : 1 ≤ n := by omega
    have h2 : n ≤ 1024 := by omega
    have hlen : (List.replicate n Pl.no).length = n := by simp
    clear hok
    go_enter Try.func4, Try.ntmps4
    go_wp2_with (first | (go_at_call 9; refine (new_ok n h1 h2 _).mono ?_; rintro e w1 ⟨p, r, cap, m, rfl, b1, lp, lr, lm, s1⟩) | (go_at_call 15; refine (rnew_n n h1 h2 _).mono ?_; rintro e w2 ⟨a, acap, rfl, b2, row2⟩; have s2 := s1.below b2; have bb := b1.trans (b2.mono b1.size)) | (go_at_call 16; refine (equal_is (h := 0) (N := n) 0 (s2.below ((Below.refl _ _).alloc (Nat.le_refl _) _)) (MapOk.new n) (row2.alloc _) hlen h2).mono ?_; rintro e w3 ⟨rfl, b3⟩; have b4 := (bb.alloc bb.size _).trans (b3.mono (bb.alloc bb.size _).size)) | (go_at_call 8; refine (known_any _).mono ?_; rintro e w4 ⟨rfl, b5⟩))
    go_ret
    exact ⟨rfl, b4.trans (b5.mono b4.size)⟩
  · have hno : a0 < 1 ∨ 1024 < a0 := by omega
    clear hok
    go_enter Try.func4, Try.ntmps4
    go_wp2_with (first | (go_at_call 9; refine (new_no a0 hno _).mono ?_; rintro e w' ⟨rfl, rfl⟩) | (go_at_call 15; refine (rnew_no a0 hno _).mono ?_; rintro e w2 ⟨rfl, b2⟩; have bb := b2.alloc b2.size (.cells #[.slice none 0 0, .int .i64 0] 47)) | (go_at_call 8; refine (known_any _).mono ?_; rintro e w4 ⟨rfl, b5⟩))
    go_ret
    exact ⟨rfl, bb.trans (b5.mono bb.size)⟩
end Go.Proofs.Ytbjhpefnonnkmaa
