/-
  The contract of cubbyholelaw31.equal.
-/
import Derived.Test.YtbjhpefnonnkmaaO
namespace Go.Proofs.Ytbjhpefnonnkmaa
open Go.ChangeShapes Go.WideShapes Go.ChangeAt Go.RowKit
set_option linter.unusedVariables false

/-- What the comparison sees. -/
structure Eyes (p r cap m a acap n : Nat) (R : List Pl) (h : Nat) (L : List (Int × Int)) (v1 v2 v3 v4 : Value) (W : World) : Prop where
  s : IsSec W p r cap m R h L
  row : Row W 78 a acap R
  k1 : W.ownsRow 0 29 1 v1 n (((R.filter (·.full)).map (·.key)).map (Value.int .u32))
  m1 : W.ownsRow 0 4 1 v2 n (((R.filter (·.full)).map (·.mark)).map Value.bool)
  k2 : W.ownsRow 0 29 1 v3 n (((R.filter (·.full)).map (·.key)).map (Value.int .u32))
  m2 : W.ownsRow 0 4 1 v4 n (((R.filter (·.full)).map (·.mark)).map Value.bool)
theorem Eyes.below {p r cap m a acap n : Nat} {R : List Pl} {h : Nat} {L : List (Int × Int)} {v1 v2 v3 v4 : Value} {W W' : World} (s : Eyes p r cap m a acap n R h L v1 v2 v3 v4 W) (k : Below W.heap.size W W') : Eyes p r cap m a acap n R h L v1 v2 v3 v4 W' :=
  ⟨s.s.below k, s.row.keep (S := []) (Keeps.of_below k) (by simp), own_below s.k1 k, own_below s.m1 k, own_below s.k2 k, own_below s.m2 k⟩
/-- What the region holds on to. -/
def Hold (w0 : World) (p r cap m a acap n N : Nat) (R : List Pl) (h : Nat) (L : List (Int × Int)) (v1 v2 v3 v4 : Value) (bx : Nat) (W : World) : Prop :=
  (Below w0.heap.size w0 W ∧ Eyes p r cap m a acap n R h L v1 v2 v3 v4 W ∧ W.heap[bx]? = some (.cells #[.slice (some ⟨a, 0, none⟩) N acap, .int .i64 (h : Nat)] 47 (0, 0)))
theorem Hold.below {w0 W W' : World} {p r cap m a acap n N : Nat} {R : List Pl} {h : Nat} {L : List (Int × Int)} {v1 v2 v3 v4 : Value} {bx : Nat} (s : Hold w0 p r cap m a acap n N R h L v1 v2 v3 v4 bx W) (k : Below W.heap.size W W') : Hold w0 p r cap m a acap n N R h L v1 v2 v3 v4 bx W' :=
  ⟨s.1.trans (k.mono s.1.size), s.2.1.below k, (k.block _ (lt_of_heap s.2.2)).trans s.2.2⟩
theorem Hold.drew {w0 W : World} {p r cap m a acap n N : Nat} {R : List Pl} {h : Nat} {L : List (Int × Int)} {v1 v2 v3 v4 : Value} {bx : Nat} (s : Hold w0 p r cap m a acap n N R h L v1 v2 v3 v4 bx W) : Hold w0 p r cap m a acap n N R h L v1 v2 v3 v4 bx W.drew := s.below (Below.refl _ _).drew
/-- With the cells of the box. -/
abbrev HoldC (w0 : World) (p r cap m a acap n N : Nat) (R : List Pl) (h : Nat) (L : List (Int × Int)) (v1 v2 v3 v4 : Value) (bx : Nat) (W : World) : Prop :=
  Hold w0 p r cap m a acap n N R h L v1 v2 v3 v4 bx W ∧ W.cell? ⟨bx, 0, none⟩ = some (.slice (some ⟨a, 0, none⟩) N acap) ∧ W.cell? ⟨bx, 1, none⟩ = some (.int .i64 (h : Nat))
theorem Hold.c {w0 W : World} {p r cap m a acap n N : Nat} {R : List Pl} {h : Nat} {L : List (Int × Int)} {v1 v2 v3 v4 : Value} {bx : Nat} (s : Hold w0 p r cap m a acap n N R h L v1 v2 v3 v4 bx W) : Hold w0 p r cap m a acap n N R h L v1 v2 v3 v4 bx W ∧ W.cell? ⟨bx, 0, none⟩ = some (.slice (some ⟨a, 0, none⟩) N acap) ∧ W.cell? ⟨bx, 1, none⟩ = some (.int .i64 (h : Nat)) := ⟨s, cell_of s.2.2 0, cell_of s.2.2 1⟩
section
variable {w0 W : World} {p r cap m a acap n N : Nat} {R : List Pl} {h : Nat} {L : List (Int × Int)} {v1 v2 v3 v4 : Value} {bx : Nat}
theorem h_same (s : HoldC w0 p r cap m a acap n N R h L v1 v2 v3 v4 bx W) (hn : n ≤ 100000) : Calls Try.prog 29 #[v1, v3] W fun e w' => e = .returned (.bool true) ∧ Hold w0 p r cap m a acap n N R h L v1 v2 v3 v4 bx w' := by
  refine (same_true s.1.2.1.k1 s.1.2.1.k2 hn).mono ?_
  rintro e w' ⟨rfl, b⟩; exact ⟨rfl, s.1.below b⟩
theorem h_marks (s : HoldC w0 p r cap m a acap n N R h L v1 v2 v3 v4 bx W) (hn : n ≤ 100000) : Calls Try.prog 30 #[v2, v4] W fun e w' => e = .returned (.bool true) ∧ Hold w0 p r cap m a acap n N R h L v1 v2 v3 v4 bx w' := by
  refine (marks_true s.1.2.1.m1 s.1.2.1.m2 hn).mono ?_
  rintro e w' ⟨rfl, b⟩; exact ⟨rfl, s.1.below b⟩
theorem h_hand (s : HoldC w0 p r cap m a acap n N R h L v1 v2 v3 v4 bx W) : Calls Try.prog 19 #[.pointer (some ⟨p, 0, none⟩)] W fun e w' => e = .returned (.int .i64 (h : Nat)) ∧ Hold w0 p r cap m a acap n N R h L v1 v2 v3 v4 bx w' := by
  refine (hand_is s.1.2.1.s).mono ?_
  rintro e w' ⟨rfl, rfl⟩; exact ⟨rfl, s.1⟩
theorem h_len (s : HoldC w0 p r cap m a acap n N R h L v1 v2 v3 v4 bx W) (hL : L.length = n) : Calls Try.prog 13 #[.pointer (some ⟨p, 0, none⟩)] W fun e w' => e = .returned (.int .i64 (n : Nat)) ∧ Hold w0 p r cap m a acap n N R h L v1 v2 v3 v4 bx w' := by
  subst hL
  refine (len_is s.1.2.1.s).mono ?_
  rintro e w' ⟨rfl, rfl⟩; exact ⟨rfl, s.1⟩
theorem h_size (s : HoldC w0 p r cap m a acap n N R h L v1 v2 v3 v4 bx W) (hN : R.length = N) : Calls Try.prog 18 #[.pointer (some ⟨p, 0, none⟩)] W fun e w' => e = .returned (.int .i64 (N : Nat)) ∧ Hold w0 p r cap m a acap n N R h L v1 v2 v3 v4 bx w' := by
  subst hN
  refine (size_is s.1.2.1.s).mono ?_
  rintro e w' ⟨rfl, rfl⟩; exact ⟨rfl, s.1⟩
theorem h_has (s : HoldC w0 p r cap m a acap n N R h L v1 v2 v3 v4 bx W) (k : Int) (b : Bool) (hb : (lookL k L 0).isSome = b) : Calls Try.prog 14 #[.pointer (some ⟨p, 0, none⟩), .int .u32 k] W fun e w' => e = .returned (.bool b) ∧ Hold w0 p r cap m a acap n N R h L v1 v2 v3 v4 bx w' := by
  subst hb
  refine (has_is k s.1.2.1.s).mono ?_
  rintro e w' ⟨rfl, rfl⟩; exact ⟨rfl, s.1⟩
theorem h_at (s : HoldC w0 p r cap m a acap n N R h L v1 v2 v3 v4 bx W) (hN : R.length = N) (hl : N ≤ 1024) (k : Int) (z : Int) (hz : atI R k = z) : Calls Try.prog 31 #[.agg #[.slice (some ⟨a, 0, none⟩) N acap, .int .i64 (h : Nat)], .int .u32 k] W fun e w' => e = .returned (.int .i64 z) ∧ Hold w0 p r cap m a acap n N R h L v1 v2 v3 v4 bx w' := by
  subst hz
  refine (at_n k s.1.2.1.row hN hl).mono ?_
  rintro e w' ⟨rfl, rfl⟩; exact ⟨rfl, s.1.below ((Below.refl _ _).alloc (Nat.le_refl _) _)⟩
end
theorem rowS {w W : World} {e : TypeId} {a cap : Nat} {R : List Pl} (s : Row w e a cap R) (k : Below w.heap.size w W) : Row W e a cap R := s.keep (S := []) (Keeps.of_below k) (by simp)
theorem ring_n {a n cap h : Nat} {R : List Pl} {w : World} (s : Row w 78 a cap R) (hn : R.length = n) (hl : n ≤ 1024) :
    Calls Try.prog 28 #[.agg #[.slice (some ⟨a, 0, none⟩) n cap, .int .i64 (h : Nat)]] w fun e w' => Ringed w R e w' := by
  subst hn; exact ring_ref s hl
set_option maxHeartbeats 4000000 in
theorem equal_is {p r cap m a acap N : Nat} {R : List Pl} {h : Nat} {L : List (Int × Int)} {w : World} (k : Int) (s : IsSec w p r cap m R h L) (hM : MapOk R L) (row : Row w 78 a acap R) (hN : R.length = N) (hl : N ≤ 1024) :
    Calls Try.prog 16 #[.pointer (some ⟨p, 0, none⟩), .agg #[.slice (some ⟨a, 0, none⟩) N acap, .int .i64 (h : Nat)], .int .u32 k] w fun e w' => e = .returned (.bool true) ∧ Below w.heap.size w w' := by
  have hL := hM.length
  have hn : fulls R ≤ 100000 := Nat.le_trans (fulls_le R) (by omega)
  have ekk : keysOf R = ((R.filter (·.full)).map (·.key)).map (Value.int .u32) := by unfold keysOf; rw [List.map_map]; rfl
  have emm : marksOf R = ((R.filter (·.full)).map (·.mark)).map Value.bool := by unfold marksOf; rw [List.map_map]; rfl
  have b0 : Below w.heap.size w (w.alloc (.cells #[.slice (some ⟨a, 0, none⟩) N acap, .int .i64 (h : Nat)] 47)) := (Below.refl _ _).alloc (Nat.le_refl _) _
  have s0 := s.below b0
  have row0 := row.alloc (.cells #[.slice (some ⟨a, 0, none⟩) N acap, .int .i64 (h : Nat)] 47)
  have hR1024 : R.length ≤ 1024 := by omega
  have main : ∀ (bb : Bool) (z : Int), (lookL k L 0).isSome = bb → atI R k = z → decide (0 ≤ z) = bb → Calls Try.prog 16 #[.pointer (some ⟨p, 0, none⟩), .agg #[.slice (some ⟨a, 0, none⟩) N acap, .int .i64 (h : Nat)], .int .u32 k] w fun e w' => e = .returned (.bool true) ∧ Below w.heap.size w w' := by
    intro bb z hb hz hd
    generalize hf : fulls R = n at *
    go_enter Try.func16, Try.ntmps16
    go_upto_region 1 with fail
    go_wp2_with (first | (go_at_call 10; refine (ring_is s0 hR1024).mono ?_; rintro e w1 ⟨v1, v2, rfl, T1⟩; rw [hf, ekk, emm] at T1; have bw1 := T1.k; have c0 : w1.cell? ⟨w.heap.size, 0, none⟩ = some (.slice (some ⟨a, 0, none⟩) N acap) := cell_of ((bw1.block _ (by simp)).trans (heap_new rfl)) 0; have c1 : w1.cell? ⟨w.heap.size, 1, none⟩ = some (.int .i64 (h : Nat)) := cell_of ((bw1.block _ (by simp)).trans (heap_new rfl)) 1) | (go_at_call 28; refine (ring_n (rowS row0 bw1) hN hl).mono ?_; rintro e w2 ⟨v3, v4, rfl, T2⟩; rw [hf, ekk, emm] at T2))
    obtain ⟨A3, c3, rfl⟩ := own_shape T2.a
    have T1' := T1.below T2.k T1.k.size
    have bw2 : Below w.heap.size w w2 := b0.trans ((bw1.mono (by simp)).trans (T2.k.mono (Nat.le_trans b0.size bw1.size)))
    have H0 : Hold w p r cap m a acap n N R h L v1 v2 (.slice A3 n c3) v4 w.heap.size w2 := ⟨bw2, ⟨s.below bw2, rowS row bw2, own_mono T1'.a (Nat.zero_le _), own_mono T1'.b (Nat.zero_le _), own_mono T2.a (Nat.zero_le _), own_mono T2.b (Nat.zero_le _)⟩, (T2.k.block _ (Nat.lt_of_lt_of_le (by simp) bw1.size)).trans ((bw1.block _ (by simp)).trans (heap_new rfl))⟩
    clear T1 T1' T2 c0 c1 bw1 bw2 s0 row0 b0 ekk emm
    have hL' : L.length = n := hL
    go_region_held3 (fun W => Hold w p r cap m a acap n N R h L v1 v2 (.slice A3 n c3) v4 w.heap.size W ∧ W.cell? ⟨w.heap.size, 0, none⟩ = some (.slice (some ⟨a, 0, none⟩) N acap) ∧ W.cell? ⟨w.heap.size, 1, none⟩ = some (.int .i64 (h : Nat))) (first | assumption | exact Hold.c (by assumption) | exact H0.drew.c) (first | (go_at_call 29; refine (h_same (by assumption) hn).mono ?_; rintro e w' ⟨rfl, H⟩) | (go_at_call 30; refine (h_marks (by assumption) hn).mono ?_; rintro e w' ⟨rfl, H⟩) | (go_at_call 19; refine (h_hand (by assumption)).mono ?_; rintro e w' ⟨rfl, H⟩) | (go_at_call 13; refine (h_len (by assumption) hL').mono ?_; rintro e w' ⟨rfl, H⟩) | (go_at_call 18; refine (h_size (by assumption) hN).mono ?_; rintro e w' ⟨rfl, H⟩) | (go_at_call 14; refine (h_has (by assumption) k bb hb).mono ?_; rintro e w' ⟨rfl, H⟩) | (go_at_call 31; refine (h_at (by assumption) hN hl k z hz).mono ?_; rintro e w' ⟨rfl, H⟩))
    all_goals go_wp2_with fail
    all_goals go_ret
    all_goals exact ⟨rfl, H.1⟩
  cases hk : atR R k with
  | some i =>
    obtain ⟨j, hj⟩ := (hM.look k).1 i hk
    exact main true (i : Nat) (by rw [hj]; rfl) (by unfold atI; rw [hk]) (by simp)
  | none =>
    exact main false (-1) (by rw [(hM.look k).2 hk]; rfl) (by unfold atI; rw [hk]) (by decide)
end Go.Proofs.Ytbjhpefnonnkmaa
