/-
  The contract of second.Copy.
-/
import Derived.Test.YtbjhpefnonnkmaaM
namespace Go.Proofs.Ytbjhpefnonnkmaa
open Go.ChangeShapes Go.WideShapes Go.ChangeAt Go.RowKit
set_option linter.unusedVariables false

/-- A copy is handed back. -/
def Copied (w : World) (R : List Pl) (h : Nat) (L : List (Int × Int)) (e : Ending) (w' : World) : Prop :=
  ∃ p r cap m, e = .returned (.pointer (some ⟨p, 0, none⟩)) ∧ Below w.heap.size w w' ∧ w.heap.size ≤ p ∧ w.heap.size ≤ r ∧ w.heap.size ≤ m ∧ IsSec w' p r cap m R h L
/-- What the region of Copy holds on to. -/
theorem held_of {p r cap m n : Nat} {R : List Pl} {h : Nat} {L : List (Int × Int)} {w W : World} (hn : R.length = n) (hs : Below w.heap.size w W ∧ IsSec W p r cap m R h L) : (Below w.heap.size w W ∧ IsSec W p r cap m R h L) ∧ W.cell? ⟨p, 0, none⟩ = some (.slice (some ⟨r, 0, none⟩) n cap) ∧ W.cell? ⟨p, 1, none⟩ = some (.int .i64 (h : Nat)) ∧ W.cell? ⟨p, 2, none⟩ = some (.map (some m)) :=
  ⟨hs, by have := cell_of hs.2.obj 0; rw [hn] at this; exact this, cell_of hs.2.obj 1, cell_of hs.2.obj 2⟩
theorem held_start {p r cap m n : Nat} {R : List Pl} {h : Nat} {L : List (Int × Int)} {w : World} (s : IsSec w p r cap m R h L) (hn : R.length = n) : (Below w.heap.size w w ∧ IsSec w p r cap m R h L) ∧ w.cell? ⟨p, 0, none⟩ = some (.slice (some ⟨r, 0, none⟩) n cap) ∧ w.cell? ⟨p, 1, none⟩ = some (.int .i64 (h : Nat)) ∧ w.cell? ⟨p, 2, none⟩ = some (.map (some m)) := held_of hn ⟨Below.refl _ _, s⟩
theorem held_drew {p r cap m n : Nat} {R : List Pl} {h : Nat} {L : List (Int × Int)} {w : World} (s : IsSec w p r cap m R h L) (hn : R.length = n) : (Below w.heap.size w w.drew ∧ IsSec w.drew p r cap m R h L) ∧ w.drew.cell? ⟨p, 0, none⟩ = some (.slice (some ⟨r, 0, none⟩) n cap) ∧ w.drew.cell? ⟨p, 1, none⟩ = some (.int .i64 (h : Nat)) ∧ w.drew.cell? ⟨p, 2, none⟩ = some (.map (some m)) := held_of hn ⟨(Below.refl _ _).drew, s.drew⟩
theorem held_below {p r cap m n : Nat} {R : List Pl} {h : Nat} {L : List (Int × Int)} {w X W : World} (hn : R.length = n) (hs : Below w.heap.size w X ∧ IsSec X p r cap m R h L) (b : Below X.heap.size X W) : (Below w.heap.size w W ∧ IsSec W p r cap m R h L) ∧ W.cell? ⟨p, 0, none⟩ = some (.slice (some ⟨r, 0, none⟩) n cap) ∧ W.cell? ⟨p, 1, none⟩ = some (.int .i64 (h : Nat)) ∧ W.cell? ⟨p, 2, none⟩ = some (.map (some m)) := held_of hn ⟨hs.1.trans (b.mono hs.1.size), hs.2.below b⟩
theorem clone_held {p r cap m n : Nat} {R : List Pl} {h : Nat} {L : List (Int × Int)} {w W : World} (hs : (Below w.heap.size w W ∧ IsSec W p r cap m R h L) ∧ W.cell? ⟨p, 0, none⟩ = some (.slice (some ⟨r, 0, none⟩) n cap) ∧ W.cell? ⟨p, 1, none⟩ = some (.int .i64 (h : Nat)) ∧ W.cell? ⟨p, 2, none⟩ = some (.map (some m))) (hn : R.length = n) (h0 : 0 < n) (hl : n ≤ 1024) :
    Calls Try.prog 34 #[.slice (some ⟨r, 0, none⟩) n cap] W fun e w' => ∃ g cap2, e = .returned (.slice (some ⟨g, 0, none⟩) n cap2) ∧ Below W.heap.size W w' ∧ Row w' 63 g cap2 R ∧ w.heap.size ≤ g ∧ ((Below w.heap.size w w' ∧ IsSec w' p r cap m R h L) ∧ w'.cell? ⟨p, 0, none⟩ = some (.slice (some ⟨r, 0, none⟩) n cap) ∧ w'.cell? ⟨p, 1, none⟩ = some (.int .i64 (h : Nat)) ∧ w'.cell? ⟨p, 2, none⟩ = some (.map (some m))) := by
  refine (clone_is hs.1.2.row hn h0 hl).mono ?_
  rintro e w1 ⟨g, cap2, rfl, b1, r1, ge1⟩
  exact ⟨g, cap2, rfl, b1, r1, Nat.le_trans hs.1.1.size ge1, held_below hn hs.1 b1⟩
theorem mclone_held {p r cap m n : Nat} {R : List Pl} {h : Nat} {L : List (Int × Int)} {w W : World} (hs : (Below w.heap.size w W ∧ IsSec W p r cap m R h L) ∧ W.cell? ⟨p, 0, none⟩ = some (.slice (some ⟨r, 0, none⟩) n cap) ∧ W.cell? ⟨p, 1, none⟩ = some (.int .i64 (h : Nat)) ∧ W.cell? ⟨p, 2, none⟩ = some (.map (some m))) (hn : R.length = n) :
    Calls Try.prog 35 #[.map (some m)] W fun e w' => ∃ m2, e = .returned (.map (some m2)) ∧ Below W.heap.size W w' ∧ Mp w' m2 L ∧ W.heap.size ≤ m2 ∧ ((Below w.heap.size w w' ∧ IsSec w' p r cap m R h L) ∧ w'.cell? ⟨p, 0, none⟩ = some (.slice (some ⟨r, 0, none⟩) n cap) ∧ w'.cell? ⟨p, 1, none⟩ = some (.int .i64 (h : Nat)) ∧ w'.cell? ⟨p, 2, none⟩ = some (.map (some m))) := by
  refine (mclone_is hs.1.2.mp).mono ?_
  rintro e w1 ⟨m2, rfl, b1, q1, ge1⟩
  exact ⟨m2, rfl, b1, q1, ge1, held_below hn hs.1 b1⟩
set_option maxHeartbeats 4000000 in
theorem copy_is {p r cap m n : Nat} {R : List Pl} {h : Nat} {L : List (Int × Int)} {w : World} (s : IsSec w p r cap m R h L) (hn : R.length = n) (h0 : 0 < n) (hl : n ≤ 1024) :
    Calls Try.prog 20 #[.pointer (some ⟨p, 0, none⟩)] w fun e w' => Copied w R h L e w' := by
  have c0 : w.cell? ⟨p, 0, none⟩ = some (.slice (some ⟨r, 0, none⟩) n cap) := by have := cell_of s.obj 0; rw [hn] at this; exact this
  have c1 : w.cell? ⟨p, 1, none⟩ = some (.int .i64 (h : Nat)) := cell_of s.obj 1
  have c2 : w.cell? ⟨p, 2, none⟩ = some (.map (some m)) := cell_of s.obj 2
  go_enter Try.func20, Try.ntmps20
  go_upto_region 3 with (first | (go_at_call 23; refine (zero_is s).mono ?_; rintro e w' ⟨rfl, rfl⟩))
  go_region_held3 (fun W => (Below w.heap.size w W ∧ IsSec W p r cap m R h L) ∧ W.cell? ⟨p, 0, none⟩ = some (.slice (some ⟨r, 0, none⟩) n cap) ∧ W.cell? ⟨p, 1, none⟩ = some (.int .i64 (h : Nat)) ∧ W.cell? ⟨p, 2, none⟩ = some (.map (some m))) (first | assumption | exact held_start s hn | exact held_drew s hn | exact held_below hn K2.1 ((Below.refl _ _).alloc (Nat.le_refl _) _)) (first | (go_at_call 34; refine (clone_held (w := w) (by assumption) hn h0 hl).mono ?_; rintro e w1 ⟨g, cap2, rfl, b1, r1, ge1, K1⟩) | (go_at_call 35; refine (mclone_held (w := w) (by assumption) hn).mono ?_; rintro e w2 ⟨m2, rfl, b2, q2, ge2, K2⟩))
  all_goals go_wp2_with fail
  all_goals go_ret
  have hw1 : w.heap.size ≤ w1.heap.size := b1.size
  have hb2 : Below w.heap.size w w2 := ((Below.refl w.heap.size w).drew.trans b1).trans (b2.mono hw1)
  have r2 : Row w2 63 g cap2 R := r1.keep (S := []) (Keeps.of_below b2) (by simp)
  have g2 := r2.lt
  have m2l := q2.lt
  have gl1 := r1.lt
  refine ⟨w2.heap.size, g, cap2, m2, rfl, hb2.alloc hb2.size _, hb2.size, ge1, by omega, ⟨?_, r2.alloc _, q2.alloc _, by omega, by omega, by omega⟩⟩
  rw [hn]; exact heap_new rfl
end Go.Proofs.Ytbjhpefnonnkmaa
