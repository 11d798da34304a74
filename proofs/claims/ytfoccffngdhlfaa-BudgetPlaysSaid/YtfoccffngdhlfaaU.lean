/-
  The walk of BudgetPlays.
-/
import Derived.Test.YtfoccffngdhlfaaT
import Derived.Test.YtfoccffngdhlfaaH
namespace Go.Proofs.Ytfoccffngdhlfaa
open Go.ChangeShapes Go.WideShapes Go.ChangeAt Go.RowKit
set_option linter.unusedVariables false

/-- What the rounds leave: the budget, and the law's state in its box. -/
structure Plays (w : World) (k q : Nat) (K : Bud) (W : World) : Prop where
  bel : Below w.heap.size w W
  lo : w.heap.size ≤ q
  ne : q ≠ w.heap.size + 1
  at_ : At W q K
  s : W.heap[w.heap.size + 1]? = some (.cells (stC K) 48 (0, 0))
  fair : Fair K k
theorem store6 {W : World} {c : Nat} {R K : Bud} (h : W.heap[c]? = some (.cells (stC R) 48 (0, 0))) :
    ((((((W.setCell ⟨c, 0, none⟩ (.int .i64 K.mc)).setCell ⟨c, 1, none⟩ (.int .i64 K.mb)).setCell ⟨c, 2, none⟩ (.int .i64 K.c0)).setCell ⟨c, 3, none⟩ (.int .i64 K.c1)).setCell ⟨c, 4, none⟩ (.int .i64 K.b0)).setCell ⟨c, 5, none⟩ (.int .i64 K.b1)).heap[c]? = some (.cells (stC K) 48 (0, 0)) :=
  set_st (K := ⟨K.mc, K.mb, K.c0, K.b0, K.c1, R.b1⟩) (set_st (K := ⟨K.mc, K.mb, K.c0, R.b0, K.c1, R.b1⟩) (set_st (K := ⟨K.mc, K.mb, K.c0, R.b0, R.c1, R.b1⟩) (set_st (K := ⟨K.mc, K.mb, R.c0, R.b0, R.c1, R.b1⟩) (set_st (K := ⟨K.mc, R.mb, R.c0, R.b0, R.c1, R.b1⟩) (set_st h rfl) rfl) rfl) rfl) rfl) rfl
theorem other6 {W : World} {c p : Nat} {o : Obj} {v0 v1 v2 v3 v4 v5 : Value} (h : W.heap[p]? = some o) (hne : p ≠ c) :
    ((((((W.setCell ⟨c, 0, none⟩ v0).setCell ⟨c, 1, none⟩ v1).setCell ⟨c, 2, none⟩ v2).setCell ⟨c, 3, none⟩ v3).setCell ⟨c, 4, none⟩ v4).setCell ⟨c, 5, none⟩ v5).heap[p]? = some o :=
  heap_other (heap_other (heap_other (heap_other (heap_other (heap_other h hne _) hne _) hne _) hne _) hne _) hne _
theorem below6 {B : Nat} {w0 W : World} {c : Nat} {v0 v1 v2 v3 v4 v5 : Value} (h : Below B w0 W) (hc : B ≤ c) :
    Below B w0 ((((((W.setCell ⟨c, 0, none⟩ v0).setCell ⟨c, 1, none⟩ v1).setCell ⟨c, 2, none⟩ v2).setCell ⟨c, 3, none⟩ v3).setCell ⟨c, 4, none⟩ v4).setCell ⟨c, 5, none⟩ v5) :=
  (((((h.setCell hc _).setCell hc _).setCell hc _).setCell hc _).setCell hc _).setCell hc _
/-- In the midst of a round. -/
structure Mid (w : World) (q c : Nat) (K K1 : Bud) (W : World) : Prop where
  bel : Below w.heap.size w W
  at_ : At W q K1
  s : W.heap[w.heap.size + 1]? = some (.cells (stC K) 48 (0, 0))
  r : W.heap[c]? = some (.cells (stC K1) 48 (0, 0))
theorem mid_set {w W : World} {q c : Nat} {K K1 R : Bud} (b : Below w.heap.size w W) (a : At W q K1) (s : W.heap[w.heap.size + 1]? = some (.cells (stC K) 48 (0, 0))) (r : W.heap[c]? = some (.cells (stC R) 48 (0, 0))) (hq : q ≠ c) (hc : w.heap.size + 1 < c) :
    Mid w q c K K1 ((((((W.setCell ⟨c, 0, none⟩ (.int .i64 K1.mc)).setCell ⟨c, 1, none⟩ (.int .i64 K1.mb)).setCell ⟨c, 2, none⟩ (.int .i64 K1.c0)).setCell ⟨c, 3, none⟩ (.int .i64 K1.c1)).setCell ⟨c, 4, none⟩ (.int .i64 K1.b0)).setCell ⟨c, 5, none⟩ (.int .i64 K1.b1)) :=
  ⟨below6 b (by omega), other6 a hq, other6 s (by omega), store6 r⟩
theorem Mid.drew {w W : World} {q c : Nat} {K K1 : Bud} (h : Mid w q c K K1 W) : Mid w q c K K1 W.drew := ⟨h.bel.drew, h.at_, h.s, h.r⟩
theorem mid_new {w W : World} {q : Nat} {K K1 : Bud} (b : Below w.heap.size w W) (a : At W q K1) (s : W.heap[w.heap.size + 1]? = some (.cells (stC K) 48 (0, 0))) :
    Mid w q W.heap.size K K1 (W.alloc (.cells #[.int .i64 K1.mc, .int .i64 K1.mb, .int .i64 K1.c0, .int .i64 K1.c1, .int .i64 K1.b0, .int .i64 K1.b1] 48)) :=
  ⟨b.alloc b.size _, heap_alloc a _, heap_alloc s _, heap_new rfl⟩
theorem after_step {w X W1 : World} {q q1 : Nat} {K : Bud} (hX : Below w.heap.size w X) (hS : X.heap[w.heap.size + 1]? = some (.cells (stC K) 48 (0, 0))) (hlo : w.heap.size ≤ q) (hne : q ≠ w.heap.size + 1) (k1 : Keep q X W1) (hq1 : q1 = q ∨ X.heap.size ≤ q1) :
    Below w.heap.size w W1 ∧ W1.heap[w.heap.size + 1]? = some (.cells (stC K) 48 (0, 0)) ∧ w.heap.size ≤ q1 ∧ q1 ≠ w.heap.size + 1 := by
  have hz := lt_of_heap hS
  refine ⟨hX.trans (k1.below hlo hX.size), (k1.block _ hz (Ne.symm hne)).trans hS, by omega, by omega⟩
theorem Plays.of_mid {w W : World} {k q c : Nat} {K K1 : Bud} (h : Mid w q c K K1 W) (hlo : w.heap.size ≤ q) (hne : q ≠ w.heap.size + 1) (hF : Fair K1 k) : Plays w k q K1
    (((((((W.setCell ⟨w.heap.size + 1, 0, none⟩ (.int .i64 K1.mc)).setCell ⟨w.heap.size + 1, 1, none⟩ (.int .i64 K1.mb)).setCell ⟨w.heap.size + 1, 2, none⟩ (.int .i64 K1.c0)).setCell ⟨w.heap.size + 1, 3, none⟩ (.int .i64 K1.c1)).setCell ⟨w.heap.size + 1, 4, none⟩ (.int .i64 K1.b0)).setCell ⟨w.heap.size + 1, 5, none⟩ (.int .i64 K1.b1)).drew) :=
  ⟨(below6 h.bel (by omega)).drew, hlo, hne, heap_drew (other6 h.at_ hne), heap_drew (store6 h.s), hF⟩
theorem Mid.below {w W W' : World} {q c : Nat} {K K1 : Bud} (h : Mid w q c K K1 W) (b : Below W.heap.size W W') : Mid w q c K K1 W' :=
  ⟨h.bel.trans (b.mono h.bel.size), h.at_.below b, heap_below h.s b, heap_below h.r b⟩
theorem ex_seen2 {Q : Exit → Act → World → Prop} {e : Exit} {a : Act} {w : World} (S : World → Prop) (hS : S w) (h : ∀ W, S W → Q e a W) : Q e a w := h w hS

set_option maxRecDepth 100000 in
set_option maxHeartbeats 4000000 in
theorem budgetPlays_walk (a0 a1 : Int) (s : Option Addr) (len cap : Nat) (f : Nat → Nat → Int) (w0 : (Lit.int .i64 a0).wf = true) (w1 : (Lit.int .i64 a1).wf = true) (w : World) (hl : len ≤ maxLen) (hs : IsActs w s len f) :
    Calls Try.prog 7 #[.int .i64 a0, .int .i64 a1, .slice s len cap] w fun e w' => e = .returned (.bool true) ∧ Below w.heap.size w w' := by
  clear w0 w1
  have hm : len ≤ 9223372036854775807 := by unfold maxLen at hl; omega
  cases hok : okB a0 a1
  · go_enter Try.func7, Try.ntmps7
    go_wp2_with (first | (go_at_call 9; refine (law_allowed_any _ _ _).mono ?_; rw [hok]; rintro e w' ⟨rfl, rfl⟩) | (go_at_call 10; refine (known_any _).mono ?_; rintro e w' ⟨rfl, hb⟩))
    go_ret
    exact ⟨rfl, hb⟩
  by_cases h60 : 60 < len
  · go_enter Try.func7, Try.ntmps7
    go_wp2_with (first | (go_at_call 9; refine (law_allowed_any _ _ _).mono ?_; rw [hok]; rintro e w' ⟨rfl, rfl⟩) | (go_at_call 10; refine (known_any _).mono ?_; rintro e w' ⟨rfl, hb⟩))
    go_ret
    exact ⟨rfl, hb⟩
  have hA0 : At (w.alloc (.cells (newB a0 a1).cells 56)) w.heap.size (newB a0 a1) := At.new
  have k0 : Below w.heap.size w (w.alloc (.cells (newB a0 a1).cells 56)) := (Below.refl _ _).alloc (Nat.le_refl _) _
  have hP0 : Plays w 0 w.heap.size (newB a0 a1) ((w.alloc (.cells (newB a0 a1).cells 56)).alloc (.cells (stC (newB a0 a1)) 48)) := ⟨k0.alloc k0.size _, Nat.le_refl _, by omega, heap_alloc hA0 _, heap_new (by simp), Fair.new hok⟩
  clear hA0 k0
  go_enter Try.func7, Try.ntmps7
  go_wp2_with (first | (go_at_call 9; refine (law_allowed_any _ _ _).mono ?_; rw [hok]; rintro e w' ⟨rfl, rfl⟩) | (go_at_call 11; refine (new_ok _ _ _ hok).mono ?_; rintro e w' ⟨rfl, rfl⟩))
  go_loopw [7, 10] (fun b i wr => ∃ k q K, k ≤ len ∧ b = .pointer (some ⟨q, 0, none⟩) ∧ i = .int .i64 (k : Nat) ∧ Plays w k q K wr) (fun _ i _ => len + 1 - (intOf i).toNat)
  case atStart => exact ⟨0, w.heap.size, newB a0 a1, by omega, rfl, rfl, hP0⟩
  case round =>
    obtain ⟨k, q, K, hk, rfl, rfl, hP⟩ := hrel
    clear hP0
    by_cases hlt : k < len
    · obtain ⟨b, off, rfl, hb, hcell⟩ := hs (by omega)
      have hbel := hP.bel
      have f0 : wr.cell? ⟨b, off + k * 4, none⟩ = some (.int .i64 (f k 0)) := (hbel.cell (p := ⟨b, off + (k * 4 + 0), none⟩) hb).trans (hcell k hlt 0 (by omega))
      have f1 : wr.cell? ⟨b, off + k * 4 + 1, none⟩ = some (.int .i64 (f k 1)) := (hbel.cell (p := ⟨b, off + (k * 4 + 1), none⟩) hb).trans (hcell k hlt 1 (by omega))
      have f2 : wr.cell? ⟨b, off + k * 4 + 2, none⟩ = some (.int .i64 (f k 2)) := (hbel.cell (p := ⟨b, off + (k * 4 + 2), none⟩) hb).trans (hcell k hlt 2 (by omega))
      have f3 : wr.cell? ⟨b, off + k * 4 + 3, none⟩ = some (.int .i64 (f k 3)) := (hbel.cell (p := ⟨b, off + (k * 4 + 3), none⟩) hb).trans (hcell k hlt 3 (by omega))
      clear hcell hs
      generalize f k 0 = x0 at f0
      generalize f k 1 = x1 at f1
      generalize f k 2 = x2 at f2
      generalize f k 3 = x3 at f3
      have hA := hP.at_
      have hF := hP.fair
      have hS := hP.s
      have s0 : wr.cell? ⟨w.heap.size + 1, 0, none⟩ = some (.int .i64 K.mc) := cell_of hS 0
      have s1 : wr.cell? ⟨w.heap.size + 1, 1, none⟩ = some (.int .i64 K.mb) := cell_of hS 1
      have s2 : wr.cell? ⟨w.heap.size + 1, 2, none⟩ = some (.int .i64 K.c0) := cell_of hS 2
      have s3 : wr.cell? ⟨w.heap.size + 1, 3, none⟩ = some (.int .i64 K.c1) := cell_of hS 3
      have s4 : wr.cell? ⟨w.heap.size + 1, 4, none⟩ = some (.int .i64 K.b0) := cell_of hS 4
      have s5 : wr.cell? ⟨w.heap.size + 1, 5, none⟩ = some (.int .i64 K.b1) := cell_of hS 5
      have g0 : wr.frozen? ⟨w.heap.size + 1, 0, none⟩ = false := frozen_of hS 0
      have g1 : wr.frozen? ⟨w.heap.size + 1, 1, none⟩ = false := frozen_of hS 1
      have g2 : wr.frozen? ⟨w.heap.size + 1, 2, none⟩ = false := frozen_of hS 2
      have g3 : wr.frozen? ⟨w.heap.size + 1, 3, none⟩ = false := frozen_of hS 3
      have g4 : wr.frozen? ⟨w.heap.size + 1, 4, none⟩ = false := frozen_of hS 4
      have g5 : wr.frozen? ⟨w.heap.size + 1, 5, none⟩ = false := frozen_of hS 5
      go_upto_region 10 with fail
      have lt := hA.lt
      have lb := Nat.lt_of_lt_of_le hb hbel.size
      have ls := lt_of_heap hS
      have kz : Below wr.heap.size wr (wr.alloc (.cells #[.int .i64 0, .int .i64 0, .int .i64 0, .int .i64 0, .int .i64 0, .int .i64 0] 48)) := (Below.refl _ _).alloc (Nat.le_refl _) _
      have zs0 : (wr.alloc (.cells #[.int .i64 0, .int .i64 0, .int .i64 0, .int .i64 0, .int .i64 0, .int .i64 0] 48)).cell? ⟨w.heap.size + 1, 0, none⟩ = some (.int .i64 K.mc) := (kz.cell (p := ⟨w.heap.size + 1, 0, none⟩) ls).trans s0
      have zs1 : (wr.alloc (.cells #[.int .i64 0, .int .i64 0, .int .i64 0, .int .i64 0, .int .i64 0, .int .i64 0] 48)).cell? ⟨w.heap.size + 1, 1, none⟩ = some (.int .i64 K.mb) := (kz.cell (p := ⟨w.heap.size + 1, 1, none⟩) ls).trans s1
      have zs2 : (wr.alloc (.cells #[.int .i64 0, .int .i64 0, .int .i64 0, .int .i64 0, .int .i64 0, .int .i64 0] 48)).cell? ⟨w.heap.size + 1, 2, none⟩ = some (.int .i64 K.c0) := (kz.cell (p := ⟨w.heap.size + 1, 2, none⟩) ls).trans s2
      have zs3 : (wr.alloc (.cells #[.int .i64 0, .int .i64 0, .int .i64 0, .int .i64 0, .int .i64 0, .int .i64 0] 48)).cell? ⟨w.heap.size + 1, 3, none⟩ = some (.int .i64 K.c1) := (kz.cell (p := ⟨w.heap.size + 1, 3, none⟩) ls).trans s3
      have zs4 : (wr.alloc (.cells #[.int .i64 0, .int .i64 0, .int .i64 0, .int .i64 0, .int .i64 0, .int .i64 0] 48)).cell? ⟨w.heap.size + 1, 4, none⟩ = some (.int .i64 K.b0) := (kz.cell (p := ⟨w.heap.size + 1, 4, none⟩) ls).trans s4
      have zs5 : (wr.alloc (.cells #[.int .i64 0, .int .i64 0, .int .i64 0, .int .i64 0, .int .i64 0, .int .i64 0] 48)).cell? ⟨w.heap.size + 1, 5, none⟩ = some (.int .i64 K.b1) := (kz.cell (p := ⟨w.heap.size + 1, 5, none⟩) ls).trans s5
      have zf0 : (wr.alloc (.cells #[.int .i64 0, .int .i64 0, .int .i64 0, .int .i64 0, .int .i64 0, .int .i64 0] 48)).cell? ⟨b, off + k * 4, none⟩ = some (.int .i64 x0) := (kz.cell (p := ⟨b, off + k * 4, none⟩) lb).trans f0
      have zf1 : (wr.alloc (.cells #[.int .i64 0, .int .i64 0, .int .i64 0, .int .i64 0, .int .i64 0, .int .i64 0] 48)).cell? ⟨b, off + k * 4 + 1, none⟩ = some (.int .i64 x1) := (kz.cell (p := ⟨b, off + k * 4 + 1, none⟩) lb).trans f1
      have zf2 : (wr.alloc (.cells #[.int .i64 0, .int .i64 0, .int .i64 0, .int .i64 0, .int .i64 0, .int .i64 0] 48)).cell? ⟨b, off + k * 4 + 2, none⟩ = some (.int .i64 x2) := (kz.cell (p := ⟨b, off + k * 4 + 2, none⟩) lb).trans f2
      have zf3 : (wr.alloc (.cells #[.int .i64 0, .int .i64 0, .int .i64 0, .int .i64 0, .int .i64 0, .int .i64 0] 48)).cell? ⟨b, off + k * 4 + 3, none⟩ = some (.int .i64 x3) := (kz.cell (p := ⟨b, off + k * 4 + 3, none⟩) lb).trans f3
      go_region_with (first | (go_at_call 24; refine (step_any q K x0 x1 x2 x3 k (by omega) _ (by first | exact hA | exact heap_drew hA | exact heap_alloc hA _ | exact heap_drew (heap_alloc hA _) | exact heap_alloc (heap_drew hA) _) hF).mono ?_; rintro e W1 ⟨q1, K1, rfl, k1, A1, F1, hq1⟩; obtain ⟨bX, sX, loX, neX⟩ := after_step (by first | exact hbel | exact hbel.drew | exact hbel.alloc hbel.size _ | exact (hbel.alloc hbel.size _).drew) (by first | exact hS | exact heap_drew hS | exact heap_alloc hS _ | exact heap_drew (heap_alloc hS _)) hP.lo hP.ne k1 hq1; (try (have B1 : W1.heap[wr.heap.size]? = some (.cells (stC ⟨0, 0, 0, 0, 0, 0⟩) 48 (0, 0)) := (k1.block _ (by simp) (by omega)).trans (by first | exact heap_new rfl | exact heap_drew (heap_new rfl)); have ne1 : q1 ≠ wr.heap.size := (by rcases hq1 with h9 | h9 <;> first | omega | (simp at h9; omega)); have n0 : W1.cell? ⟨wr.heap.size, 0, none⟩ = some (.int .i64 0) := cell_of B1 0; have m0 : W1.frozen? ⟨wr.heap.size, 0, none⟩ = false := frozen_of B1 0; have n1 : W1.cell? ⟨wr.heap.size, 1, none⟩ = some (.int .i64 0) := cell_of B1 1; have m1 : W1.frozen? ⟨wr.heap.size, 1, none⟩ = false := frozen_of B1 1; have n2 : W1.cell? ⟨wr.heap.size, 2, none⟩ = some (.int .i64 0) := cell_of B1 2; have m2 : W1.frozen? ⟨wr.heap.size, 2, none⟩ = false := frozen_of B1 2; have n3 : W1.cell? ⟨wr.heap.size, 3, none⟩ = some (.int .i64 0) := cell_of B1 3; have m3 : W1.frozen? ⟨wr.heap.size, 3, none⟩ = false := frozen_of B1 3; have n4 : W1.cell? ⟨wr.heap.size, 4, none⟩ = some (.int .i64 0) := cell_of B1 4; have m4 : W1.frozen? ⟨wr.heap.size, 4, none⟩ = false := frozen_of B1 4; have n5 : W1.cell? ⟨wr.heap.size, 5, none⟩ = some (.int .i64 0) := cell_of B1 5; have m5 : W1.frozen? ⟨wr.heap.size, 5, none⟩ = false := frozen_of B1 5))))
      all_goals first
        | (refine ex_seen2 (Mid w q1 wr.heap.size K K1) (by with_reducible exact mid_set bX A1 sX B1 ne1 ls) ?_; clear B1 ne1; intro W2 M; generalize wr.heap.size = c at M ⊢)
        | (refine ex_seen2 (Mid w q1 W1.heap.size K K1) (by with_reducible exact mid_new bX A1 sX) ?_; intro W2 M; generalize W1.heap.size = c at M ⊢)
      all_goals clear k1 bX sX A1 hq1 hA hS hP hF hbel
      all_goals (clear s0 g0 zs0 s1 g1 zs1 s2 g2 zs2 s3 g3 zs3 s4 g4 zs4 s5 g5 zs5 f0 zf0 f1 zf1 f2 zf2 f3 zf3 kz lb ls)
      all_goals have hI1 := F1.inv (by omega)
      all_goals (have t0 : W2.cell? ⟨c, 0, none⟩ = some (.int .i64 K1.mc) := cell_of M.r 0; have t1 : W2.cell? ⟨c, 1, none⟩ = some (.int .i64 K1.mb) := cell_of M.r 1; have t2 : W2.cell? ⟨c, 2, none⟩ = some (.int .i64 K1.c0) := cell_of M.r 2; have t3 : W2.cell? ⟨c, 3, none⟩ = some (.int .i64 K1.c1) := cell_of M.r 3; have t4 : W2.cell? ⟨c, 4, none⟩ = some (.int .i64 K1.b0) := cell_of M.r 4; have t5 : W2.cell? ⟨c, 5, none⟩ = some (.int .i64 K1.b1) := cell_of M.r 5; have u0 : W2.cell? ⟨w.heap.size + 1, 0, none⟩ = some (.int .i64 K.mc) := cell_of M.s 0; have u1 : W2.cell? ⟨w.heap.size + 1, 1, none⟩ = some (.int .i64 K.mb) := cell_of M.s 1; have u2 : W2.cell? ⟨w.heap.size + 1, 2, none⟩ = some (.int .i64 K.c0) := cell_of M.s 2; have u3 : W2.cell? ⟨w.heap.size + 1, 3, none⟩ = some (.int .i64 K.c1) := cell_of M.s 3; have u4 : W2.cell? ⟨w.heap.size + 1, 4, none⟩ = some (.int .i64 K.b0) := cell_of M.s 4; have u5 : W2.cell? ⟨w.heap.size + 1, 5, none⟩ = some (.int .i64 K.b1) := cell_of M.s 5; have v0 : W2.frozen? ⟨w.heap.size + 1, 0, none⟩ = false := frozen_of M.s 0; have v1 : W2.frozen? ⟨w.heap.size + 1, 1, none⟩ = false := frozen_of M.s 1; have v2 : W2.frozen? ⟨w.heap.size + 1, 2, none⟩ = false := frozen_of M.s 2; have v3 : W2.frozen? ⟨w.heap.size + 1, 3, none⟩ = false := frozen_of M.s 3; have v4 : W2.frozen? ⟨w.heap.size + 1, 4, none⟩ = false := frozen_of M.s 4; have v5 : W2.frozen? ⟨w.heap.size + 1, 5, none⟩ = false := frozen_of M.s 5)
      all_goals go_wp2_with (first | (go_at_call 23; refine (is_any q1 K1 _ M.at_ hI1).mono ?_; rintro e W3 ⟨rfl, b3⟩; have N := M.below b3; clear t0 u0 v0 t1 u1 v1 t2 u2 v2 t3 u3 v3 t4 u4 v4 t5 u5 v5 b3; have t0 : W3.cell? ⟨c, 0, none⟩ = some (.int .i64 K1.mc) := cell_of N.r 0; have t1 : W3.cell? ⟨c, 1, none⟩ = some (.int .i64 K1.mb) := cell_of N.r 1; have t2 : W3.cell? ⟨c, 2, none⟩ = some (.int .i64 K1.c0) := cell_of N.r 2; have t3 : W3.cell? ⟨c, 3, none⟩ = some (.int .i64 K1.c1) := cell_of N.r 3; have t4 : W3.cell? ⟨c, 4, none⟩ = some (.int .i64 K1.b0) := cell_of N.r 4; have t5 : W3.cell? ⟨c, 5, none⟩ = some (.int .i64 K1.b1) := cell_of N.r 5; have u0 : W3.cell? ⟨w.heap.size + 1, 0, none⟩ = some (.int .i64 K.mc) := cell_of N.s 0; have u1 : W3.cell? ⟨w.heap.size + 1, 1, none⟩ = some (.int .i64 K.mb) := cell_of N.s 1; have u2 : W3.cell? ⟨w.heap.size + 1, 2, none⟩ = some (.int .i64 K.c0) := cell_of N.s 2; have u3 : W3.cell? ⟨w.heap.size + 1, 3, none⟩ = some (.int .i64 K.c1) := cell_of N.s 3; have u4 : W3.cell? ⟨w.heap.size + 1, 4, none⟩ = some (.int .i64 K.b0) := cell_of N.s 4; have u5 : W3.cell? ⟨w.heap.size + 1, 5, none⟩ = some (.int .i64 K.b1) := cell_of N.s 5; have v0 : W3.frozen? ⟨w.heap.size + 1, 0, none⟩ = false := frozen_of N.s 0; have v1 : W3.frozen? ⟨w.heap.size + 1, 1, none⟩ = false := frozen_of N.s 1; have v2 : W3.frozen? ⟨w.heap.size + 1, 2, none⟩ = false := frozen_of N.s 2; have v3 : W3.frozen? ⟨w.heap.size + 1, 3, none⟩ = false := frozen_of N.s 3; have v4 : W3.frozen? ⟨w.heap.size + 1, 4, none⟩ = false := frozen_of N.s 4; have v5 : W3.frozen? ⟨w.heap.size + 1, 5, none⟩ = false := frozen_of N.s 5))
      all_goals go_region
      all_goals refine ex_seen2 (Plays w (k + 1) q1 K1) (by with_reducible exact Plays.of_mid N loX neX F1) ?_
      all_goals intro W4 hP4
      all_goals clear t0 u0 v0 t1 u1 v1 t2 u2 v2 t3 u3 v3 t4 u4 v4 t5 u5 v5
      all_goals go_wp2_with fail
      all_goals go_roundw
      all_goals first
        | (case rel => exact ⟨k + 1, q1, K1, by omega, rfl, by go_num, hP4⟩)
        | skip
      all_goals (simp [intOf]; omega)
    · go_wp2_with (first | (go_at_call 10; refine (known_any _).mono ?_; rintro e w9 ⟨rfl, hb⟩))
      go_ret
      exact ⟨rfl, hP.bel.trans (hb.mono hP.bel.size)⟩
end Go.Proofs.Ytfoccffngdhlfaa
