/-
  The walk of SecondPlays.
-/
import Derived.Test.YtbjhpefnonnkmaaT
import Derived.Test.YtbjhpefnonnkmaaR
namespace Go.Proofs.Ytbjhpefnonnkmaa
open Go.ChangeShapes Go.WideShapes Go.ChangeAt Go.RowKit
set_option linter.unusedVariables false

theorem IsActs.later {w W : World} {S : List Nat} {s : Option Addr} {len : Nat} {f g : Nat → Int} (h : IsActs w [] s len f g) (k : Below w.heap.size w W) (hS : ∀ i ∈ S, w.heap.size ≤ i) : IsActs W S s len f g := by
  intro hl
  obtain ⟨b, off, hs, hb, _, hc⟩ := h hl
  refine ⟨b, off, hs, Nat.lt_of_lt_of_le hb k.size, fun q => by have := hS _ q; omega, fun i hi => ?_⟩
  obtain ⟨c1, c2⟩ := hc i hi
  exact ⟨(k.cell (p := ⟨b, off + i * 2, none⟩) hb).trans c1, (k.cell (p := ⟨b, off + i * 2 + 1, none⟩) hb).trans c2⟩
theorem row_apart {W : World} {p r cap m a acap : Nat} {R R2 : List Pl} {h : Nat} {L : List (Int × Int)} (s : IsSec W p r cap m R h L) (row : Row W 78 a acap R2) : a ∉ [p, r, m] := by
  obtain ⟨cur, hc, _⟩ := row
  obtain ⟨cur2, hc2, _⟩ := s.row
  obtain ⟨es, cl, hm, _⟩ := s.mp
  intro q
  simp at q
  rcases q with rfl | rfl | rfl
  · rw [s.obj] at hc; simp at hc
  · rw [hc2] at hc; simp at hc
  · rw [hm] at hc; simp at hc
theorem secondPlays_walk (a0 : Int) (s : Option Addr) (len cap : Nat) (f g : Nat → Int) (w0 : (Lit.int .i64 a0).wf = true) (w : World) (hl : len ≤ maxLen) (hs : IsActs w [] s len f g) :
    Calls Try.prog 5 #[.int .i64 a0, .slice s len cap] w fun e w' => e = .returned (.bool true) ∧ Below w.heap.size w w' := by
  clear w0
  have hm : len ≤ 9223372036854775807 := by unfold maxLen at hl; omega
  clear hl
  by_cases hok : 1 ≤ a0 ∧ a0 ≤ 40
  · by_cases h100 : 100 < len
    · obtain ⟨h1, h2⟩ := hok
      go_enter Try.func5, Try.ntmps5
      go_wp2_with (first | (go_at_call 8; refine (known_any _).mono ?_; rintro e w4 ⟨rfl, b5⟩))
      go_ret
      exact ⟨rfl, b5⟩
    · obtain ⟨n, rfl⟩ : ∃ n : Nat, a0 = (n : Int) := ⟨a0.toNat, by omega⟩
      have h1 : 1 ≤ n := by omega
      have h2 : n ≤ 40 := by omega
      have h3 : n ≤ 1024 := by omega
      have hlen : (List.replicate n Pl.no).length = n := by simp
      clear hok
      go_enter Try.func5, Try.ntmps5
      go_wp2_with (first | (go_at_call 9; refine (new_ok n h1 h3 _).mono ?_; rintro e w1 ⟨p, r, rcap, m, rfl, b1, lp, lr, lm, s1⟩) | (go_at_call 15; refine (rnew_n n h1 h3 _).mono ?_; rintro e w2 ⟨a, acap, rfl, b2, row2⟩; have s2 := s1.below b2; have bb := (b1.trans (b2.mono b1.size)).alloc (b1.trans (b2.mono b1.size)).size (.cells #[.slice (some ⟨a, 0, none⟩) n acap, .int .i64 0] 47)) | (go_at_call 17; refine (plays_is (h0 := 0) (n := n) (s2.below ((Below.refl _ _).alloc (Nat.le_refl _) _)) (MapOk.new n) (row2.alloc _) (row_apart s2 row2) hlen h3 (by omega) (hs.later bb (by simp; omega)) (by omega)).mono ?_; rintro e w3 ⟨p', r', c', m', a', ac', R', h', L', rfl, k3, s3, M3, row3, hR3, hh3, na3, own3⟩; have b3 := bb.trans (k3.below (by simp; omega) bb.size); have b4 := b3.alloc b3.size (.cells #[.slice (some ⟨a', 0, none⟩) n ac', .int .i64 (h' : Nat)] 47)) | (go_at_call 8; refine (known_any _).mono ?_; rintro e w4 ⟨rfl, b5⟩))
      go_ret
      exact ⟨rfl, b4.trans (b5.mono b4.size)⟩
  · have hno : a0 < 1 ∨ 40 < a0 := by omega
    clear hok
    go_enter Try.func5, Try.ntmps5
    go_wp2_with (first | (go_at_call 8; refine (known_any _).mono ?_; rintro e w4 ⟨rfl, b5⟩))
    all_goals go_ret
    all_goals exact ⟨rfl, b5⟩
end Go.Proofs.Ytbjhpefnonnkmaa
