/-
  The contracts of the reference's Drop and of second.Copy.
-/
import Derived.Test.YtbjhpefnonnkmaaJ
namespace Go.Proofs.Ytbjhpefnonnkmaa
open Go.ChangeShapes Go.WideShapes Go.ChangeAt Go.RowKit
set_option linter.unusedVariables false

/-- What the reference's Drop sees. -/
structure RD (w : World) (a n cap h : Nat) (T : Array Value) (R : List Pl) (W : World) : Prop where
  bel : Below w.heap.size w W
  box : W.heap[w.heap.size]? = some (.cells #[.slice (some ⟨a, 0, none⟩) n cap, .int .i64 (h : Nat)] 47 (0, 0))
  res : W.heap[w.heap.size + 1]? = some (.cells T 47 (0, 0))
  row : Row W 78 a cap R
  n0 : a ≠ w.heap.size
  n1 : a ≠ w.heap.size + 1
theorem RD.below {w W W' : World} {a n cap h : Nat} {T : Array Value} {R : List Pl} (s : RD w a n cap h T R W) (k : Below W.heap.size W W') : RD w a n cap h T R W' :=
  ⟨s.bel.trans (k.mono s.bel.size), (k.block _ (lt_of_heap s.box)).trans s.box, (k.block _ (lt_of_heap s.res)).trans s.res, s.row.keep (S := []) (Keeps.of_below k) (by simp), s.n0, s.n1⟩
theorem RD.setBox {w W : World} {a n cap h : Nat} {T : Array Value} {R : List Pl} (s : RD w a n cap h T R W) {a' cap' h' : Nat} {R' : List Pl} (r : Row W 78 a' cap' R') (ha : w.heap.size + 1 < a') :
    RD w a' n cap' h' T R' ((W.setCell ⟨w.heap.size, 0, none⟩ (.slice (some ⟨a', 0, none⟩) n cap')).setCell ⟨w.heap.size, 1, none⟩ (.int .i64 (h' : Nat))) :=
  ⟨(s.bel.setCell (Nat.le_refl _) _).setCell (Nat.le_refl _) _, heap_set (heap_set s.box _) _, heap_other (heap_other s.res (by omega) _) (by omega) _, (r.other (by omega) _).other (by omega) _, by omega, by omega⟩
theorem RD.setPlace {w W : World} {a n cap h i : Nat} {T : Array Value} {R : List Pl} (s : RD w a n cap h T R W) (hi : i < R.length) (ha : w.heap.size ≤ a) (x : Pl) : RD w a n cap h T (R.set i x) (((W.setCell ⟨a, i * 3, none⟩ (.int .u32 x.key)).setCell ⟨a, i * 3 + 1, none⟩ (.bool x.full)).setCell ⟨a, i * 3 + 2, none⟩ (.bool x.mark)) :=
  ⟨((s.bel.setCell ha _).setCell ha _).setCell ha _, heap_other (heap_other (heap_other s.box (Ne.symm s.n0) _) (Ne.symm s.n0) _) (Ne.symm s.n0) _, heap_other (heap_other (heap_other s.res (Ne.symm s.n1) _) (Ne.symm s.n1) _) (Ne.symm s.n1) _, s.row.set hi x, s.n0, s.n1⟩
theorem RD.setRes {w W : World} {a n cap h : Nat} {t0 t1 : Value} {R : List Pl} (s : RD w a n cap h #[t0, t1] R W) (x y : Value) : RD w a n cap h #[x, y] R ((W.setCell ⟨w.heap.size + 1, 0, none⟩ x).setCell ⟨w.heap.size + 1, 1, none⟩ y) :=
  ⟨(s.bel.setCell (by simp) _).setCell (by simp) _, heap_other (heap_other s.box (by omega) _) (by omega) _, heap_set (heap_set s.res _) _, (s.row.other s.n1 _).other s.n1 _, s.n0, s.n1⟩
/-- What the reference's Drop leaves. -/
def RDropped (w : World) (a0 : Nat) (R : List Pl) (n h : Nat) (k : Int) (e : Ending) (w' : World) : Prop :=
  ∃ a cap, e = .returned (.tuple #[.agg #[.slice (some ⟨a, 0, none⟩) n cap, .int .i64 (h : Nat)], .bool (atR R k).isSome]) ∧ Below w.heap.size w w' ∧ Row w' 78 a cap (dropR R k) ∧ (a = a0 ∨ w.heap.size ≤ a)
set_option maxHeartbeats 4000000 in
theorem rdrop_is {a n cap h : Nat} {R : List Pl} {w : World} (k : Int) (s : Row w 78 a cap R) (hn : R.length = n) (h0 : 0 < n) (hl : n ≤ 1024) :
    Calls Try.prog 33 #[.agg #[.slice (some ⟨a, 0, none⟩) n cap, .int .i64 (h : Nat)], .int .u32 k] w fun e w' => RDropped w a R n h k e w' := by
  have lt := s.lt
  have b0 : RD w a n cap h #[.slice none 0 0, .int .i64 0] R ((w.alloc (.cells #[.slice (some ⟨a, 0, none⟩) n cap, .int .i64 (h : Nat)] 47)).alloc (.cells #[.slice none 0 0, .int .i64 0] 47)) :=
    ⟨((Below.refl _ _).alloc (Nat.le_refl _) _).alloc (by simp) _, heap_alloc (heap_new rfl) _, heap_new (by simp), (s.alloc _).alloc _, by omega, by omega⟩
  cases hk : atR R k with
  | none =>
    have hat : atI R k = -1 := by unfold atI; rw [hk]
    go_enter Try.func33, Try.ntmps33
    go_upto_region 1 with fail
    refine wp_seen (RD w a n cap h #[.slice none 0 0, .int .i64 0] R) b0 ?_
    intro W b
    have c0 : W.cell? ⟨w.heap.size, 0, none⟩ = some (.slice (some ⟨a, 0, none⟩) n cap) := cell_of b.box 0
    have c1 : W.cell? ⟨w.heap.size, 1, none⟩ = some (.int .i64 (h : Nat)) := cell_of b.box 1
    go_upto_region 3 with (first | (go_at_call 31; refine (at_n k b.row hn hl).mono ?_; rintro e Wa ⟨rfl, rfl⟩; rw [hat]))
    refine wp_seen (RD w a n cap h #[.slice none 0 0, .int .i64 0] R) (b.below ((Below.refl _ _).alloc (Nat.le_refl _) _)) ?_
    intro W2 b2
    clear c0 c1 b b0
    have c0 : W2.cell? ⟨w.heap.size, 0, none⟩ = some (.slice (some ⟨a, 0, none⟩) n cap) := cell_of b2.box 0
    have c1 : W2.cell? ⟨w.heap.size, 1, none⟩ = some (.int .i64 (h : Nat)) := cell_of b2.box 1
    have t0 : W2.cell? ⟨w.heap.size + 1, 0, none⟩ = some (.slice none 0 0) := cell_of b2.res 0
    have t1 : W2.cell? ⟨w.heap.size + 1, 1, none⟩ = some (.int .i64 0) := cell_of b2.res 1
    have gt0 : W2.frozen? ⟨w.heap.size + 1, 0, none⟩ = false := frozen_of b2.res 0
    have gt1 : W2.frozen? ⟨w.heap.size + 1, 1, none⟩ = false := frozen_of b2.res 1
    go_wp2_with fail
    refine post_seen (RD w a n cap h #[.slice (some ⟨a, 0, none⟩) n cap, .int .i64 (h : Nat)] R) (b2.setRes _ _) ?_
    intro W9 b9
    clear t0 t1 gt0 gt1 c0 c1
    have t0 : W9.cell? ⟨w.heap.size + 1, 0, none⟩ = some (.slice (some ⟨a, 0, none⟩) n cap) := cell_of b9.res 0
    have t1 : W9.cell? ⟨w.heap.size + 1, 1, none⟩ = some (.int .i64 (h : Nat)) := cell_of b9.res 1
    exact bodyPost_ret (v := .tuple #[.agg #[.slice (some ⟨a, 0, none⟩) n cap, .int .i64 (h : Nat)], .bool false]) (by simp [results, Try.results33, go_sem, t0, t1]) rfl ⟨a, cap, by rw [hk]; rfl, b9.bel, by unfold dropR; rw [hk]; exact b9.row, .inl rfl⟩
  | some i =>
    obtain ⟨x, hx, hf, _⟩ := atR_some hk
    have hi := (List.getElem?_eq_some_iff.1 hx).1
    have hi' : ((i : Nat) : Int) < (n : Int) := by omega
    have hat : atI R k = (i : Nat) := by unfold atI; rw [hk]
    have hd : RDropped w a R n h k = fun e w' => ∃ a1 cap, e = .returned (.tuple #[.agg #[.slice (some ⟨a1, 0, none⟩) n cap, .int .i64 (h : Nat)], .bool true]) ∧ Below w.heap.size w w' ∧ Row w' 78 a1 cap (R.set i Pl.no) ∧ (a1 = a ∨ w.heap.size ≤ a1) := by
      unfold RDropped dropR; rw [hk]; rfl
    rw [hd]
    clear hd hk
    go_enter Try.func33, Try.ntmps33
    go_upto_region 1 with fail
    refine wp_seen (RD w a n cap h #[.slice none 0 0, .int .i64 0] R) b0 ?_
    intro W b
    have c0 : W.cell? ⟨w.heap.size, 0, none⟩ = some (.slice (some ⟨a, 0, none⟩) n cap) := cell_of b.box 0
    have c1 : W.cell? ⟨w.heap.size, 1, none⟩ = some (.int .i64 (h : Nat)) := cell_of b.box 1
    go_upto_region 4 with (first | (go_at_call 31; refine (at_n k b.row hn hl).mono ?_; rintro e Wa ⟨rfl, rfl⟩; rw [hat]))
    refine wp_seen (RD w a n cap h #[.slice none 0 0, .int .i64 0] R) (b.below ((Below.refl _ _).alloc (Nat.le_refl _) _)) ?_
    intro W2 b2
    clear c0 c1 b b0
    have c0 : W2.cell? ⟨w.heap.size, 0, none⟩ = some (.slice (some ⟨a, 0, none⟩) n cap) := cell_of b2.box 0
    have c1 : W2.cell? ⟨w.heap.size, 1, none⟩ = some (.int .i64 (h : Nat)) := cell_of b2.box 1
    go_upto_region 5 with (first | (go_at_call 36; refine (copy_n b2.row hn h0 hl).mono ?_; rintro e Wc ⟨a2, cap2, rfl, bc, rc, ac⟩; have bb := b2.below bc; clear c0 c1; have c0 : Wc.cell? ⟨w.heap.size, 0, none⟩ = some (.slice (some ⟨a, 0, none⟩) n cap) := cell_of bb.box 0; have c1 : Wc.cell? ⟨w.heap.size, 1, none⟩ = some (.int .i64 (h : Nat)) := cell_of bb.box 1; have gc0 : Wc.frozen? ⟨w.heap.size, 0, none⟩ = false := frozen_of bb.box 0; have gc1 : Wc.frozen? ⟨w.heap.size, 1, none⟩ = false := frozen_of bb.box 1))
    have ha : w.heap.size + 1 < a2 := Nat.lt_of_lt_of_le (lt_of_heap b2.res) ac
    refine wp_seen (RD w a2 n cap2 h #[.slice none 0 0, .int .i64 0] R) (bb.setBox rc ha) ?_
    intro W3 b3
    clear c0 c1 gc0 gc1 bb b2 rc ac bc
    have c0 : W3.cell? ⟨w.heap.size, 0, none⟩ = some (.slice (some ⟨a2, 0, none⟩) n cap2) := cell_of b3.box 0
    have f0 : W3.cell? ⟨a2, i * 3, none⟩ = some (.int .u32 x.key) := b3.row.cell hx 0 (by omega)
    have f1 : W3.cell? ⟨a2, i * 3 + 1, none⟩ = some (.bool x.full) := b3.row.cell hx 1 (by omega)
    have f2 : W3.cell? ⟨a2, i * 3 + 2, none⟩ = some (.bool x.mark) := b3.row.cell hx 2 (by omega)
    have gf0 : W3.frozen? ⟨a2, i * 3, none⟩ = false := b3.row.frozen _
    have gf1 : W3.frozen? ⟨a2, i * 3 + 1, none⟩ = false := b3.row.frozen _
    have gf2 : W3.frozen? ⟨a2, i * 3 + 2, none⟩ = false := b3.row.frozen _
    go_upto_region 6 with fail
    refine wp_seen (RD w a2 n cap2 h #[.slice none 0 0, .int .i64 0] (R.set i Pl.no)) (b3.setPlace hi (by omega) Pl.no) ?_
    intro W4 b4
    clear c0 f0 f1 f2 gf0 gf1 gf2 b3
    have c0 : W4.cell? ⟨w.heap.size, 0, none⟩ = some (.slice (some ⟨a2, 0, none⟩) n cap2) := cell_of b4.box 0
    have c1 : W4.cell? ⟨w.heap.size, 1, none⟩ = some (.int .i64 (h : Nat)) := cell_of b4.box 1
    have t0 : W4.cell? ⟨w.heap.size + 1, 0, none⟩ = some (.slice none 0 0) := cell_of b4.res 0
    have t1 : W4.cell? ⟨w.heap.size + 1, 1, none⟩ = some (.int .i64 0) := cell_of b4.res 1
    have gt0 : W4.frozen? ⟨w.heap.size + 1, 0, none⟩ = false := frozen_of b4.res 0
    have gt1 : W4.frozen? ⟨w.heap.size + 1, 1, none⟩ = false := frozen_of b4.res 1
    go_wp2_with fail
    refine post_seen (RD w a2 n cap2 h #[.slice (some ⟨a2, 0, none⟩) n cap2, .int .i64 (h : Nat)] (R.set i Pl.no)) (b4.setRes _ _) ?_
    intro W9 b9
    clear t0 t1 gt0 gt1 c0 c1
    have t0 : W9.cell? ⟨w.heap.size + 1, 0, none⟩ = some (.slice (some ⟨a2, 0, none⟩) n cap2) := cell_of b9.res 0
    have t1 : W9.cell? ⟨w.heap.size + 1, 1, none⟩ = some (.int .i64 (h : Nat)) := cell_of b9.res 1
    exact bodyPost_ret (v := .tuple #[.agg #[.slice (some ⟨a2, 0, none⟩) n cap2, .int .i64 (h : Nat)], .bool true]) (by simp [results, Try.results33, go_sem, t0, t1]) rfl ⟨a2, cap2, rfl, b9.bel, b9.row, .inr (by omega)⟩
end Go.Proofs.Ytbjhpefnonnkmaa
