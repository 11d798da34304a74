/-
  The contract of the reference's Join.
-/
import Derived.Test.YtihgidkkdjmlkaaM
namespace Go.Proofs.Ytihgidkkdjmlkaa
open Go.ChangeShapes Go.WideShapes Go.ChangeAt Go.RowKit
set_option linter.unusedVariables false

/-- Joined up to a place. -/
def Bl.joinU (K M : Bl) (i : Nat) : Nat → Bool := fun j => K.b j || (M.b j && decide (j < i))
theorem joinU_at (K M : Bl) (i : Nat) : K.joinU M i i = K.b i := by unfold Bl.joinU; simp
theorem joinU_next (K M : Bl) (i : Nat) : K.joinU M (i + 1) i = (K.b i || M.b i) := by unfold Bl.joinU; simp
theorem joinU_other (K M : Bl) (i j : Nat) (h : j ≠ i) : K.joinU M (i + 1) j = K.joinU M i j := by
  unfold Bl.joinU
  have : decide (j < i + 1) = decide (j < i) := by rw [decide_eq_decide]; omega
  rw [this]
/-- What the reference's Join keeps. -/
structure JrI (w : World) (N r c r2 c2 : Nat) (K M : Bl) (i : Nat) (W : World) : Prop where
  bel : Below N w W
  box : W.heap[N]? = some (.cells (refC K r c) 25 (0, 0))
  oth : W.heap[N + 1]? = some (.cells (refC M r2 c2) 25 (0, 0))
  res : W.heap[N + 2]? = some (.cells #[.int .i64 0, .int .u64 0, .slice none 0 0] 25 (0, 0))
  set : Bools W r K.n c (K.joinU M i)
  gs : Bools W r2 M.n c2 M.b
  here : N ≤ r
  ne : r2 ≠ r
theorem JrI.next {w W : World} {N r c r2 c2 i : Nat} {K M : Bl} {b : Bool} (z : JrI w N r c r2 c2 K M i W) (hb : (K.b i || M.b i) = b) : JrI w N r c r2 c2 K M (i + 1) ((W.setCell ⟨r, i, none⟩ (.bool b)).drew) := by
  have n0 := z.set.ne_of z.box (by decide)
  have n1 := z.set.ne_of z.oth (by decide)
  have n2 := z.set.ne_of z.res (by decide)
  have bb := below_put z.bel (i := i) z.here (.bool b)
  exact ⟨⟨bb.os, bb.tape, bb.output, bb.size, bb.block⟩, heap_drew (heap_other z.box n0 _), heap_drew (heap_other z.oth n1 _), heap_drew (heap_other z.res n2 _),
    z.set.set i b (by rw [joinU_next, hb]) (fun j hj => joinU_other K M i j hj), z.gs.other z.ne _, z.here, z.ne⟩
theorem join_start {w : World} {K M : Bl} {r c r2 c2 : Nat} (s : Bools w r K.n c K.b) (t : Bools w r2 M.n c2 M.b) :
    Below w.heap.size w (((w.alloc (.cells (refC K r c) 25)).alloc (.cells (refC M r2 c2) 25)).alloc (.cells #[.int .i64 0, .int .u64 0, .slice none 0 0] 25)) ∧
    (((w.alloc (.cells (refC K r c) 25)).alloc (.cells (refC M r2 c2) 25)).alloc (.cells #[.int .i64 0, .int .u64 0, .slice none 0 0] 25)).heap[w.heap.size]? = some (.cells (refC K r c) 25 (0, 0)) ∧
    (((w.alloc (.cells (refC K r c) 25)).alloc (.cells (refC M r2 c2) 25)).alloc (.cells #[.int .i64 0, .int .u64 0, .slice none 0 0] 25)).heap[w.heap.size + 1]? = some (.cells (refC M r2 c2) 25 (0, 0)) ∧
    (((w.alloc (.cells (refC K r c) 25)).alloc (.cells (refC M r2 c2) 25)).alloc (.cells #[.int .i64 0, .int .u64 0, .slice none 0 0] 25)).heap[w.heap.size + 2]? = some (.cells #[.int .i64 0, .int .u64 0, .slice none 0 0] 25 (0, 0)) ∧
    Bools (((w.alloc (.cells (refC K r c) 25)).alloc (.cells (refC M r2 c2) 25)).alloc (.cells #[.int .i64 0, .int .u64 0, .slice none 0 0] 25)) r K.n c K.b ∧
    Bools (((w.alloc (.cells (refC K r c) 25)).alloc (.cells (refC M r2 c2) 25)).alloc (.cells #[.int .i64 0, .int .u64 0, .slice none 0 0] 25)) r2 M.n c2 M.b :=
  ⟨(((Below.refl _ _).alloc (Nat.le_refl _) _).alloc (by simp) _).alloc (by simp; omega) _, heap_alloc (heap_alloc (heap_new rfl) _) _, heap_alloc (heap_new (by simp)) _, heap_new (by simp), ((s.alloc _).alloc _).alloc _, ((t.alloc _).alloc _).alloc _⟩
set_option maxRecDepth 100000 in
set_option maxHeartbeats 1000000 in
theorem rjoin_is {w : World} {K M : Bl} {r c r2 c2 : Nat} (s : Bools w r K.n c K.b) (hK : K.Ok) (t : Bools w r2 M.n c2 M.b) (hM : M.Ok) (hl : K.like M = true) :
    Calls Try.prog 19 #[refV K r c, refV M r2 c2] w fun e w' => ∃ r' c', e = .returned (.tuple #[refV K r' c', .int .i64 0]) ∧ Bools w' r' K.n c' (K.join M).b ∧ Below w.heap.size w w' ∧ w.heap.size ≤ r' := by
  obtain ⟨e1, e2, e3⟩ := K.like_yes hl
  have E1 := Lib.hid e1
  have E2 := Lib.hid e2
  have E3 := Lib.hid e3
  clear e1 e2 e3
  have h64 := hK.n64
  obtain ⟨h641, h642, h643⟩ := h64
  clear h643
  have z0 := join_start s t
  have ht := t.lt
  unfold refV
  go_enter Try.func19, Try.ntmps19
  go_upto_region 1 with fail
  refine wp_seen (fun W => Below w.heap.size w W ∧ W.heap[w.heap.size]? = some (.cells (refC K r c) 25 (0, 0)) ∧ W.heap[w.heap.size + 1]? = some (.cells (refC M r2 c2) 25 (0, 0)) ∧ W.heap[w.heap.size + 2]? = some (.cells #[.int .i64 0, .int .u64 0, .slice none 0 0] 25 (0, 0)) ∧ Bools W r K.n c K.b ∧ Bools W r2 M.n c2 M.b) z0 ?_
  clear z0
  rintro W ⟨b1, x1, o1, y1, s1, t1⟩
  have m0 : W.cell? ⟨w.heap.size, 0, none⟩ = some (.int .i64 (K.h : Nat)) := cell_of x1 0
  have m1 : W.cell? ⟨w.heap.size, 1, none⟩ = some (.int .u64 K.seed) := cell_of x1 1
  have m2 : W.cell? ⟨w.heap.size, 2, none⟩ = some (.slice (some ⟨r, 0, none⟩) K.n c) := cell_of x1 2
  have k0 : W.cell? ⟨w.heap.size + 1, 0, none⟩ = some (.int .i64 (K.h : Nat)) := by rw [E2.out]; exact cell_of o1 0
  have k1 : W.cell? ⟨w.heap.size + 1, 1, none⟩ = some (.int .u64 K.seed) := by rw [E3.out]; exact cell_of o1 1
  have k2 : W.cell? ⟨w.heap.size + 1, 2, none⟩ = some (.slice (some ⟨r2, 0, none⟩) K.n c2) := by rw [E1.out]; exact cell_of o1 2
  generalize hN : w.heap.size = N at *
  have HN := Lib.hid hN
  clear hN
  have hNW : N ≤ W.heap.size := HN.out ▸ b1.size
  obtain ⟨r', c', w2, q2, s2, b3, hr'⟩ := app_bools s1 (by omega) h642 23
  have x3 := (b3.block N (lt_of_heap x1)).trans x1
  have o3 := (b3.block (N + 1) (lt_of_heap o1)).trans o1
  have y3 := (b3.block (N + 2) (lt_of_heap y1)).trans y1
  have k3 : w2.cell? ⟨N, 2, none⟩ = some (.slice (some ⟨r, 0, none⟩) K.n c) := cell_of x3 2
  have f3 := frozen_of x3 2
  have z1 : JrI w N r' c' r2 c2 K M 0 (w2.setCell ⟨N, 2, none⟩ (.slice (some ⟨r', 0, none⟩) K.n c')) :=
    ⟨below_put (b1.trans (b3.mono hNW)) (Nat.le_refl _) _, heap_set x3 _, heap_other o3 (by omega) _, heap_other y3 (by omega) _, (s2.other (s2.ne_of x3 (by decide)).symm _).congr (fun j _ => by unfold Bl.joinU; simp), (t1.below b3).other ((t1.below b3).ne_of x3 (by decide)).symm _, by omega, by omega⟩
  go_upto_region 4 with (at_builtin; refine Lib.wpList_append_run _ rfl _ _ _ _ rfl _ _ rfl rfl _ _ q2 ?_)
  refine wp_seen _ z1 ?_
  clear z1 q2 s2 b3 hr' x3 o3 y3 k3 f3 m0 m1 m2 k0 k1 k2 x1 o1 y1 s1 t1 b1 hNW
  rintro V z
  go_wp2_with fail
  go_loopw [6] (fun x wr => ∃ i : Nat, i ≤ K.n ∧ x = .int .i64 (i : Nat) ∧ JrI w N r' c' r2 c2 K M i wr) (fun x _ => K.n - (intOf x).toNat)
  case atStart => exact ⟨0, Nat.zero_le _, rfl, z⟩
  case round =>
    obtain ⟨i, hi, rfl, zr⟩ := hrel
    clear z
    have m2 : wr.cell? ⟨N, 2, none⟩ = some (.slice (some ⟨r', 0, none⟩) K.n c') := cell_of zr.box 2
    by_cases hlt : i < K.n
    · have k2 : wr.cell? ⟨N + 1, 2, none⟩ = some (.slice (some ⟨r2, 0, none⟩) K.n c2) := by rw [E1.out]; exact cell_of zr.oth 2
      have mb := zr.set.cell hlt
      rw [joinU_at] at mb
      have mf := zr.set.frozen i
      have mg := zr.gs.cell (i := i) (by rw [← E1.out]; exact hlt)
      have f1 : (0 : Int) ≤ (i : Int) := by omega
      have f2 : (i : Int) < (K.n : Int) := by omega
      cases hb : K.b i with
      | true =>
        rw [hb] at mb
        have zn := zr.next (b := true) (by rw [hb]; rfl)
        clear hb
        go_wp2_with fail
        go_region
        all_goals go_wp2_with fail
        all_goals go_roundw
        case rel => exact ⟨i + 1, by omega, by go_num, zn⟩
        all_goals (simp [intOf]; omega)
      | false =>
        rw [hb] at mb
        cases hm : M.b i with
        | true =>
          rw [hm] at mg
          have zn := zr.next (b := true) (by rw [hb, hm]; rfl)
          clear hb hm
          go_wp2_with fail
          go_region
          all_goals go_wp2_with fail
          all_goals go_roundw
          case rel => exact ⟨i + 1, by omega, by go_num, zn⟩
          all_goals (simp [intOf]; omega)
        | false =>
          rw [hm] at mg
          have zn := zr.next (b := false) (by rw [hb, hm]; rfl)
          clear hb hm
          go_wp2_with fail
          go_region
          all_goals go_wp2_with fail
          all_goals go_roundw
          case rel => exact ⟨i + 1, by omega, by go_num, zn⟩
          all_goals (simp [intOf]; omega)
    · obtain rfl : K.n = i := by omega
      have m0 : wr.cell? ⟨N, 0, none⟩ = some (.int .i64 (K.h : Nat)) := cell_of zr.box 0
      have m1 : wr.cell? ⟨N, 1, none⟩ = some (.int .u64 K.seed) := cell_of zr.box 1
      have n0 : wr.cell? ⟨N + 2, 0, none⟩ = some (.int .i64 0) := cell_of zr.res 0
      have n1 : wr.cell? ⟨N + 2, 1, none⟩ = some (.int .u64 0) := cell_of zr.res 1
      have n2 : wr.cell? ⟨N + 2, 2, none⟩ = some (.slice none 0 0) := cell_of zr.res 2
      have g0 := frozen_of zr.res 0
      have g1 := frozen_of zr.res 1
      have g2 := frozen_of zr.res 2
      have sJ : Bools wr r' K.n c' (K.join M).b := zr.set.congr (fun j hj => by
        show (K.b j || M.b j) = K.joinU M K.n j
        unfold Bl.joinU
        rw [decide_eq_true hj]; simp)
      go_wp2_with fail
      refine post_seen (fun W => Below N w W ∧ W.heap[N + 2]? = some (.cells #[.int .i64 (K.h : Nat), .int .u64 K.seed, .slice (some ⟨r', 0, none⟩) K.n c'] 25 (0, 0)) ∧ Bools W r' K.n c' (K.join M).b ∧ N ≤ r') (res_put' (by omega) zr.bel zr.res sJ zr.here) ?_
      rintro V ⟨b9, x9, s9, hr9⟩
      have c0 : V.cell? ⟨N + 2, 0, none⟩ = some (.int .i64 (K.h : Nat)) := cell_of x9 0
      have c1 : V.cell? ⟨N + 2, 1, none⟩ = some (.int .u64 K.seed) := cell_of x9 1
      have c2 : V.cell? ⟨N + 2, 2, none⟩ = some (.slice (some ⟨r', 0, none⟩) K.n c') := cell_of x9 2
      exact bodyPost_ret (v := .tuple #[.agg #[.int .i64 (K.h : Nat), .int .u64 K.seed, .slice (some ⟨r', 0, none⟩) K.n c'], .int .i64 0]) (by simp [results, Try.results19, go_sem, c0, c1, c2]) rfl ⟨r', c', rfl, s9, by rw [HN.out]; exact b9, by rw [HN.out]; exact hr9⟩
set_option maxRecDepth 100000 in
theorem rjoin_no {w : World} {K M : Bl} {r c r2 c2 : Nat} (s : Bools w r K.n c K.b) (hK : K.Ok) (t : Bools w r2 M.n c2 M.b) (hM : M.Ok) (hl : ¬ K.like M = true) :
    Calls Try.prog 19 #[refV K r c, refV M r2 c2] w fun e w' => e = .returned (.tuple #[refV K r c, .int .i64 10]) ∧ Below w.heap.size w w' := by
  have hl' := K.like_not hl
  have z0 := join_start s t
  have hr : w.heap.size = w.heap.size := rfl
  have hd : (¬ K.n = M.n) ∨ (K.n = M.n ∧ ¬ K.h = M.h) ∨ (K.n = M.n ∧ K.h = M.h ∧ ¬ K.seed = M.seed) := by
    by_cases e1 : K.n = M.n
    · by_cases e2 : K.h = M.h
      · exact .inr (.inr ⟨e1, e2, fun e3 => hl' ⟨e1, e2, e3⟩⟩)
      · exact .inr (.inl ⟨e1, e2⟩)
    · exact .inl e1
  have Hd := Lib.hid hd
  clear hl hl' hd hr
  have s0 := s
  unfold refV
  go_enter Try.func19, Try.ntmps19
  go_upto_region 1 with fail
  refine wp_seen (fun W => Below w.heap.size w W ∧ W.heap[w.heap.size]? = some (.cells (refC K r c) 25 (0, 0)) ∧ W.heap[w.heap.size + 1]? = some (.cells (refC M r2 c2) 25 (0, 0)) ∧ W.heap[w.heap.size + 2]? = some (.cells #[.int .i64 0, .int .u64 0, .slice none 0 0] 25 (0, 0)) ∧ Bools W r K.n c K.b ∧ Bools W r2 M.n c2 M.b) z0 ?_
  clear z0
  rintro W ⟨b1, x1, o1, y1, s1, t1⟩
  have m0 : W.cell? ⟨w.heap.size, 0, none⟩ = some (.int .i64 (K.h : Nat)) := cell_of x1 0
  have m1 : W.cell? ⟨w.heap.size, 1, none⟩ = some (.int .u64 K.seed) := cell_of x1 1
  have m2 : W.cell? ⟨w.heap.size, 2, none⟩ = some (.slice (some ⟨r, 0, none⟩) K.n c) := cell_of x1 2
  have k0 : W.cell? ⟨w.heap.size + 1, 0, none⟩ = some (.int .i64 (M.h : Nat)) := cell_of o1 0
  have k1 : W.cell? ⟨w.heap.size + 1, 1, none⟩ = some (.int .u64 M.seed) := cell_of o1 1
  have k2 : W.cell? ⟨w.heap.size + 1, 2, none⟩ = some (.slice (some ⟨r2, 0, none⟩) M.n c2) := cell_of o1 2
  generalize hN : w.heap.size = N at *
  have HN := Lib.hid hN
  clear hN
  have n0 : W.cell? ⟨N + 2, 0, none⟩ = some (.int .i64 0) := cell_of y1 0
  have n1 : W.cell? ⟨N + 2, 1, none⟩ = some (.int .u64 0) := cell_of y1 1
  have n2 : W.cell? ⟨N + 2, 2, none⟩ = some (.slice none 0 0) := cell_of y1 2
  have g0 := frozen_of y1 0
  have g1 := frozen_of y1 1
  have g2 := frozen_of y1 2
  have zf : Below N w (((W.setCell ⟨N + 2, 0, none⟩ (.int .i64 (K.h : Nat))).setCell ⟨N + 2, 1, none⟩ (.int .u64 K.seed)).setCell ⟨N + 2, 2, none⟩ (.slice (some ⟨r, 0, none⟩) K.n c)) ∧ (((W.setCell ⟨N + 2, 0, none⟩ (.int .i64 (K.h : Nat))).setCell ⟨N + 2, 1, none⟩ (.int .u64 K.seed)).setCell ⟨N + 2, 2, none⟩ (.slice (some ⟨r, 0, none⟩) K.n c)).heap[N + 2]? = some (.cells #[.int .i64 (K.h : Nat), .int .u64 K.seed, .slice (some ⟨r, 0, none⟩) K.n c] 25 (0, 0)) :=
    ⟨below_put (below_put (below_put b1 (by omega) _) (by omega) _) (by omega) _, heap_set (heap_set (heap_set y1 _) _) _⟩
  rcases Hd.out with hd | ⟨e1, hd⟩ | ⟨e1, e2, hd⟩
  · have h2 : ¬ (K.n : Int) = (M.n : Int) := by omega
    have h3 : ((K.n : Int) == (M.n : Int)) = false := by rw [beq_eq_false_iff_ne]; exact h2
    go_wp2_with fail
    refine post_seen (fun V => Below N w V ∧ V.heap[N + 2]? = some (.cells #[.int .i64 (K.h : Nat), .int .u64 K.seed, .slice (some ⟨r, 0, none⟩) K.n c] 25 (0, 0))) zf ?_
    rintro V ⟨b9, x9⟩
    have c0 : V.cell? ⟨N + 2, 0, none⟩ = some (.int .i64 (K.h : Nat)) := cell_of x9 0
    have c1 : V.cell? ⟨N + 2, 1, none⟩ = some (.int .u64 K.seed) := cell_of x9 1
    have c2 : V.cell? ⟨N + 2, 2, none⟩ = some (.slice (some ⟨r, 0, none⟩) K.n c) := cell_of x9 2
    exact bodyPost_ret (v := .tuple #[.agg #[.int .i64 (K.h : Nat), .int .u64 K.seed, .slice (some ⟨r, 0, none⟩) K.n c], .int .i64 10]) (by simp [results, Try.results19, go_sem, c0, c1, c2]) rfl ⟨rfl, by rw [HN.out]; exact b9⟩
  · rw [← e1] at k2
    clear e1
    have h2 : ¬ (K.h : Int) = (M.h : Int) := by omega
    have h3 : ((K.h : Int) == (M.h : Int)) = false := by rw [beq_eq_false_iff_ne]; exact h2
    go_wp2_with fail
    refine post_seen (fun V => Below N w V ∧ V.heap[N + 2]? = some (.cells #[.int .i64 (K.h : Nat), .int .u64 K.seed, .slice (some ⟨r, 0, none⟩) K.n c] 25 (0, 0))) zf ?_
    rintro V ⟨b9, x9⟩
    have c0 : V.cell? ⟨N + 2, 0, none⟩ = some (.int .i64 (K.h : Nat)) := cell_of x9 0
    have c1 : V.cell? ⟨N + 2, 1, none⟩ = some (.int .u64 K.seed) := cell_of x9 1
    have c2 : V.cell? ⟨N + 2, 2, none⟩ = some (.slice (some ⟨r, 0, none⟩) K.n c) := cell_of x9 2
    exact bodyPost_ret (v := .tuple #[.agg #[.int .i64 (K.h : Nat), .int .u64 K.seed, .slice (some ⟨r, 0, none⟩) K.n c], .int .i64 10]) (by simp [results, Try.results19, go_sem, c0, c1, c2]) rfl ⟨rfl, by rw [HN.out]; exact b9⟩
  · rw [← e1] at k2
    rw [← e2] at k0
    clear e1 e2
    have h3 : (K.seed == M.seed) = false := by rw [beq_eq_false_iff_ne]; exact hd
    go_wp2_with fail
    refine post_seen (fun V => Below N w V ∧ V.heap[N + 2]? = some (.cells #[.int .i64 (K.h : Nat), .int .u64 K.seed, .slice (some ⟨r, 0, none⟩) K.n c] 25 (0, 0))) zf ?_
    rintro V ⟨b9, x9⟩
    have c0 : V.cell? ⟨N + 2, 0, none⟩ = some (.int .i64 (K.h : Nat)) := cell_of x9 0
    have c1 : V.cell? ⟨N + 2, 1, none⟩ = some (.int .u64 K.seed) := cell_of x9 1
    have c2 : V.cell? ⟨N + 2, 2, none⟩ = some (.slice (some ⟨r, 0, none⟩) K.n c) := cell_of x9 2
    exact bodyPost_ret (v := .tuple #[.agg #[.int .i64 (K.h : Nat), .int .u64 K.seed, .slice (some ⟨r, 0, none⟩) K.n c], .int .i64 10]) (by simp [results, Try.results19, go_sem, c0, c1, c2]) rfl ⟨rfl, by rw [HN.out]; exact b9⟩
end Go.Proofs.Ytihgidkkdjmlkaa
