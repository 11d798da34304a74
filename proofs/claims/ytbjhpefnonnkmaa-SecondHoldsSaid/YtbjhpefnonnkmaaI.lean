/-
  The contracts of the reference's Drop and Use.
-/
import Derived.Test.YtbjhpefnonnkmaaH
namespace Go.Proofs.Ytbjhpefnonnkmaa
open Go.ChangeShapes Go.WideShapes Go.ChangeAt Go.RowKit
set_option linter.unusedVariables false

/-- What a method of the reference sees: the receiver's box, the boxes of the results, the row. -/
structure RB (w : World) (a n cap h : Nat) (T U : Array Value) (tu : TypeId) (R : List Pl) (W : World) : Prop where
  bel : Below w.heap.size w W
  box : W.heap[w.heap.size]? = some (.cells #[.slice (some ⟨a, 0, none⟩) n cap, .int .i64 (h : Nat)] 47 (0, 0))
  res : W.heap[w.heap.size + 1]? = some (.cells T 47 (0, 0))
  res2 : W.heap[w.heap.size + 1 + 1]? = some (.cells U tu (0, 0))
  row : Row W 78 a cap R
  n0 : a ≠ w.heap.size
  n1 : a ≠ w.heap.size + 1
  n2 : a ≠ w.heap.size + 1 + 1
theorem RB.below {w W W' : World} {a n cap h : Nat} {T U : Array Value} {tu : TypeId} {R : List Pl} (s : RB w a n cap h T U tu R W) (k : Below W.heap.size W W') : RB w a n cap h T U tu R W' :=
  ⟨s.bel.trans (k.mono s.bel.size), (k.block _ (lt_of_heap s.box)).trans s.box, (k.block _ (lt_of_heap s.res)).trans s.res, (k.block _ (lt_of_heap s.res2)).trans s.res2, s.row.keep (S := []) (Keeps.of_below k) (by simp), s.n0, s.n1, s.n2⟩
/-- The receiver's box gets another value. -/
theorem RB.setBox {w W : World} {a n cap h : Nat} {T U : Array Value} {tu : TypeId} {R : List Pl} (s : RB w a n cap h T U tu R W) {a' cap' h' : Nat} {R' : List Pl} (r : Row W 78 a' cap' R') (ha : w.heap.size + 1 + 1 < a') :
    RB w a' n cap' h' T U tu R' ((W.setCell ⟨w.heap.size, 0, none⟩ (.slice (some ⟨a', 0, none⟩) n cap')).setCell ⟨w.heap.size, 1, none⟩ (.int .i64 (h' : Nat))) :=
  ⟨(s.bel.setCell (Nat.le_refl _) _).setCell (Nat.le_refl _) _, heap_set (heap_set s.box _) _, heap_other (heap_other s.res (by omega) _) (by omega) _, heap_other (heap_other s.res2 (by omega) _) (by omega) _, (r.other (by omega) _).other (by omega) _, by omega, by omega, by omega⟩
theorem RB.setHand {w W : World} {a n cap h : Nat} {T U : Array Value} {tu : TypeId} {R : List Pl} (s : RB w a n cap h T U tu R W) (h' : Nat) : RB w a n cap h' T U tu R (W.setCell ⟨w.heap.size, 1, none⟩ (.int .i64 (h' : Nat))) :=
  ⟨s.bel.setCell (Nat.le_refl _) _, heap_set s.box _, heap_other s.res (by omega) _, heap_other s.res2 (by omega) _, s.row.other s.n0 _, s.n0, s.n1, s.n2⟩
theorem RB.setPlace {w W : World} {a n cap h i : Nat} {T U : Array Value} {tu : TypeId} {R : List Pl} (s : RB w a n cap h T U tu R W) (hi : i < R.length) (ha : w.heap.size ≤ a) (x : Pl) : RB w a n cap h T U tu (R.set i x) (((W.setCell ⟨a, i * 3, none⟩ (.int .u32 x.key)).setCell ⟨a, i * 3 + 1, none⟩ (.bool x.full)).setCell ⟨a, i * 3 + 2, none⟩ (.bool x.mark)) :=
  ⟨((s.bel.setCell ha _).setCell ha _).setCell ha _, heap_other (heap_other (heap_other s.box (Ne.symm s.n0) _) (Ne.symm s.n0) _) (Ne.symm s.n0) _, heap_other (heap_other (heap_other s.res (Ne.symm s.n1) _) (Ne.symm s.n1) _) (Ne.symm s.n1) _, heap_other (heap_other (heap_other s.res2 (Ne.symm s.n2) _) (Ne.symm s.n2) _) (Ne.symm s.n2) _, s.row.set hi x, s.n0, s.n1, s.n2⟩
theorem RB.setMark {w W : World} {a n cap h i : Nat} {T U : Array Value} {tu : TypeId} {R : List Pl} (s : RB w a n cap h T U tu R W) {x : Pl} (hx : R[i]? = some x) (ha : w.heap.size ≤ a) (b : Bool) : RB w a n cap h T U tu (R.set i ⟨x.key, x.full, b⟩) (W.setCell ⟨a, i * 3 + 2, none⟩ (.bool b)) :=
  ⟨s.bel.setCell ha _, heap_other s.box (Ne.symm s.n0) _, heap_other s.res (Ne.symm s.n1) _, heap_other s.res2 (Ne.symm s.n2) _, s.row.setMark hx b, s.n0, s.n1, s.n2⟩
/-- The result is laid. -/
theorem RB.setRes {w W : World} {a n cap h : Nat} {t0 t1 : Value} {U : Array Value} {tu : TypeId} {R : List Pl} (s : RB w a n cap h #[t0, t1] U tu R W) (x y : Value) : RB w a n cap h #[x, y] U tu R ((W.setCell ⟨w.heap.size + 1, 0, none⟩ x).setCell ⟨w.heap.size + 1, 1, none⟩ y) :=
  ⟨(s.bel.setCell (by simp) _).setCell (by simp) _, heap_other (heap_other s.box (by omega) _) (by omega) _, heap_set (heap_set s.res _) _, heap_other (heap_other s.res2 (by omega) _) (by omega) _, (s.row.other s.n1 _).other s.n1 _, s.n0, s.n1, s.n2⟩
theorem RB.setTurn {w W : World} {a n cap h : Nat} {T : Array Value} {u0 u1 u2 : Value} {tu : TypeId} {R : List Pl} (s : RB w a n cap h T #[u0, u1, u2] tu R W) (x y z : Value) : RB w a n cap h T #[x, y, z] tu R (((W.setCell ⟨w.heap.size + 1 + 1, 0, none⟩ x).setCell ⟨w.heap.size + 1 + 1, 1, none⟩ y).setCell ⟨w.heap.size + 1 + 1, 2, none⟩ z) :=
  ⟨((s.bel.setCell (by simp; omega) _).setCell (by simp; omega) _).setCell (by simp; omega) _, heap_other (heap_other (heap_other s.box (by omega) _) (by omega) _) (by omega) _, heap_other (heap_other (heap_other s.res (by omega) _) (by omega) _) (by omega) _, heap_set (heap_set (heap_set s.res2 _) _) _, ((s.row.other s.n2 _).other s.n2 _).other s.n2 _, s.n0, s.n1, s.n2⟩

/-- What the reference's Use leaves. -/
def RUsed (w : World) (o : Out) (e : Ending) (w' : World) : Prop :=
  ∃ a cap, e = .returned (.tuple #[.agg #[.slice (some ⟨a, 0, none⟩) o.R.length cap, .int .i64 (o.h : Nat)], .agg #[.bool o.hit, .bool o.left, .int .u32 o.out]]) ∧ Below w.heap.size w w' ∧ Row w' 78 a cap o.R ∧ w.heap.size ≤ a

theorem copy_n {a n cap h : Nat} {R : List Pl} {w : World} (s : Row w 78 a cap R) (hn : R.length = n) (h0 : 0 < n) (hl : n ≤ 1024) :
    Calls Try.prog 36 #[.agg #[.slice (some ⟨a, 0, none⟩) n cap, .int .i64 (h : Nat)]] w fun e w' => ∃ a' cap', e = .returned (.agg #[.slice (some ⟨a', 0, none⟩) n cap', .int .i64 (h : Nat)]) ∧ Below w.heap.size w w' ∧ Row w' 78 a' cap' R ∧ w.heap.size ≤ a' := by
  subst hn; exact copy_ref s h0 hl
theorem at_n {a n cap h : Nat} {R : List Pl} {w : World} (k : Int) (s : Row w 78 a cap R) (hn : R.length = n) (hl : n ≤ 1024) :
    Calls Try.prog 31 #[.agg #[.slice (some ⟨a, 0, none⟩) n cap, .int .i64 (h : Nat)], .int .u32 k] w fun e w' => e = .returned (.int .i64 (atI R k)) ∧ w' = w.alloc (.cells #[.slice (some ⟨a, 0, none⟩) n cap, .int .i64 (h : Nat)] 47) := by
  subst hn; exact at_ref k s hl

set_option maxHeartbeats 4000000 in
theorem ruse_hit {a n cap h i : Nat} {R : List Pl} {w : World} (k : Int) (s : Row w 78 a cap R) (hn : R.length = n) (hl : n ≤ 1024) (hk : atR R k = some i) :
    Calls Try.prog 32 #[.agg #[.slice (some ⟨a, 0, none⟩) n cap, .int .i64 (h : Nat)], .int .u32 k] w fun e w' => RUsed w (useR R h k) e w' := by
  obtain ⟨x, hx, hf, _⟩ := atR_some hk
  have hi := (List.getElem?_eq_some_iff.1 hx).1
  have hat : atI R k = (i : Nat) := by unfold atI; rw [hk]
  have hu : useR R h k = ⟨R.set i ⟨x.key, x.full, true⟩, h, true, false, 0⟩ := by unfold useR; rw [hk]; simp only [modify_set hx]
  rw [hu]
  clear hu hk
  have hi' : ((i : Nat) : Int) < (n : Int) := by omega
  have lt := s.lt
  go_enter Try.func32, Try.ntmps32
  go_upto_region 1 with fail
  refine wp_seen (RB w a n cap h #[.slice none 0 0, .int .i64 0] #[.bool false, .bool false, .int .u32 0] 37 R) ⟨(((Below.refl _ _).alloc (Nat.le_refl _) _).alloc (by simp) _).alloc (by simp; omega) _, heap_alloc (heap_alloc (heap_new rfl) _) _, heap_alloc (heap_new (by simp)) _, heap_new (by simp), ((s.alloc _).alloc _).alloc _, by omega, by omega, by omega⟩ ?_
  intro W b
  have c0 : W.cell? ⟨w.heap.size, 0, none⟩ = some (.slice (some ⟨a, 0, none⟩) n cap) := cell_of b.box 0
  have c1 : W.cell? ⟨w.heap.size, 1, none⟩ = some (.int .i64 (h : Nat)) := cell_of b.box 1
  go_upto_region 2 with (first | (go_at_call 36; refine (copy_n b.row hn (by omega) hl).mono ?_; rintro e Wc ⟨a2, cap2, rfl, bc, rc, ac⟩; have bb := b.below bc; clear c0 c1; have c0 : Wc.cell? ⟨w.heap.size, 0, none⟩ = some (.slice (some ⟨a, 0, none⟩) n cap) := cell_of bb.box 0; have c1 : Wc.cell? ⟨w.heap.size, 1, none⟩ = some (.int .i64 (h : Nat)) := cell_of bb.box 1; have gc0 : Wc.frozen? ⟨w.heap.size, 0, none⟩ = false := frozen_of bb.box 0; have gc1 : Wc.frozen? ⟨w.heap.size, 1, none⟩ = false := frozen_of bb.box 1))
  have ha : w.heap.size + 1 + 1 < a2 := Nat.lt_of_lt_of_le (lt_of_heap b.res2) ac
  refine wp_seen (RB w a2 n cap2 h #[.slice none 0 0, .int .i64 0] #[.bool false, .bool false, .int .u32 0] 37 R) (bb.setBox rc ha) ?_
  intro W1 b1
  clear c0 c1 gc0 gc1 bb b rc ac bc
  have c0 : W1.cell? ⟨w.heap.size, 0, none⟩ = some (.slice (some ⟨a2, 0, none⟩) n cap2) := cell_of b1.box 0
  have c1 : W1.cell? ⟨w.heap.size, 1, none⟩ = some (.int .i64 (h : Nat)) := cell_of b1.box 1
  have gc0 : W1.frozen? ⟨w.heap.size, 0, none⟩ = false := frozen_of b1.box 0
  have gc1 : W1.frozen? ⟨w.heap.size, 1, none⟩ = false := frozen_of b1.box 1
  go_upto_region 3 with (first | (go_at_call 31; refine (at_n k b1.row hn hl).mono ?_; rintro e Wa ⟨rfl, rfl⟩; rw [hat]))
  refine wp_seen (RB w a2 n cap2 h #[.slice none 0 0, .int .i64 0] #[.bool false, .bool false, .int .u32 0] 37 R) (b1.below ((Below.refl _ _).alloc (Nat.le_refl _) _)) ?_
  intro W2 b2
  clear c0 c1 gc0 gc1
  clear b1
  have c0 : W2.cell? ⟨w.heap.size, 0, none⟩ = some (.slice (some ⟨a2, 0, none⟩) n cap2) := cell_of b2.box 0
  have c1 : W2.cell? ⟨w.heap.size, 1, none⟩ = some (.int .i64 (h : Nat)) := cell_of b2.box 1
  have gc0 : W2.frozen? ⟨w.heap.size, 0, none⟩ = false := frozen_of b2.box 0
  have gc1 : W2.frozen? ⟨w.heap.size, 1, none⟩ = false := frozen_of b2.box 1
  have f0 : W2.cell? ⟨a2, i * 3, none⟩ = some (.int .u32 x.key) := b2.row.cell hx 0 (by omega)
  have f1 : W2.cell? ⟨a2, i * 3 + 1, none⟩ = some (.bool x.full) := b2.row.cell hx 1 (by omega)
  have f2 : W2.cell? ⟨a2, i * 3 + 2, none⟩ = some (.bool x.mark) := b2.row.cell hx 2 (by omega)
  have gf0 : W2.frozen? ⟨a2, i * 3, none⟩ = false := b2.row.frozen _
  have gf1 : W2.frozen? ⟨a2, i * 3 + 1, none⟩ = false := b2.row.frozen _
  have gf2 : W2.frozen? ⟨a2, i * 3 + 2, none⟩ = false := b2.row.frozen _
  go_upto_region 5 with fail
  refine wp_seen (RB w a2 n cap2 h #[.slice none 0 0, .int .i64 0] #[.bool false, .bool false, .int .u32 0] 37 (R.set i ⟨x.key, x.full, true⟩)) (b2.setMark hx (by omega) true) ?_
  intro W3 b3
  clear c0 c1 gc0 gc1
  clear f0 f1 f2 gf0 gf1 gf2
  clear b2
  have c0 : W3.cell? ⟨w.heap.size, 0, none⟩ = some (.slice (some ⟨a2, 0, none⟩) n cap2) := cell_of b3.box 0
  have c1 : W3.cell? ⟨w.heap.size, 1, none⟩ = some (.int .i64 (h : Nat)) := cell_of b3.box 1
  have gc0 : W3.frozen? ⟨w.heap.size, 0, none⟩ = false := frozen_of b3.box 0
  have gc1 : W3.frozen? ⟨w.heap.size, 1, none⟩ = false := frozen_of b3.box 1
  have t0 : W3.cell? ⟨w.heap.size + 1, 0, none⟩ = some (.slice none 0 0) := cell_of b3.res 0
  have t1 : W3.cell? ⟨w.heap.size + 1, 1, none⟩ = some (.int .i64 0) := cell_of b3.res 1
  have gt0 : W3.frozen? ⟨w.heap.size + 1, 0, none⟩ = false := frozen_of b3.res 0
  have gt1 : W3.frozen? ⟨w.heap.size + 1, 1, none⟩ = false := frozen_of b3.res 1
  have u0 : W3.cell? ⟨w.heap.size + 1 + 1, 0, none⟩ = some (.bool false) := cell_of b3.res2 0
  have u1 : W3.cell? ⟨w.heap.size + 1 + 1, 1, none⟩ = some (.bool false) := cell_of b3.res2 1
  have u2 : W3.cell? ⟨w.heap.size + 1 + 1, 2, none⟩ = some (.int .u32 0) := cell_of b3.res2 2
  have gu0 : W3.frozen? ⟨w.heap.size + 1 + 1, 0, none⟩ = false := frozen_of b3.res2 0
  have gu1 : W3.frozen? ⟨w.heap.size + 1 + 1, 1, none⟩ = false := frozen_of b3.res2 1
  have gu2 : W3.frozen? ⟨w.heap.size + 1 + 1, 2, none⟩ = false := frozen_of b3.res2 2
  go_wp2_with fail
  refine post_seen (RB w a2 n cap2 (h) #[.slice (some ⟨a2, 0, none⟩) n cap2, .int .i64 ((h) : Nat)] #[.bool true, .bool false, .int .u32 0] 37 (R.set i ⟨x.key, x.full, true⟩)) ((b3.setRes _ _).setTurn _ _ _) ?_
  intro W9 b9
  clear c0 c1 gc0 gc1
  clear t0 t1 gt0 gt1 u0 u1 u2 gu0 gu1 gu2
  have t0 : W9.cell? ⟨w.heap.size + 1, 0, none⟩ = some (.slice (some ⟨a2, 0, none⟩) n cap2) := cell_of b9.res 0
  have t1 : W9.cell? ⟨w.heap.size + 1, 1, none⟩ = some (.int .i64 ((h) : Nat)) := cell_of b9.res 1
  have u0 : W9.cell? ⟨w.heap.size + 1 + 1, 0, none⟩ = some (.bool true) := cell_of b9.res2 0
  have u1 : W9.cell? ⟨w.heap.size + 1 + 1, 1, none⟩ = some (.bool false) := cell_of b9.res2 1
  have u2 : W9.cell? ⟨w.heap.size + 1 + 1, 2, none⟩ = some (.int .u32 0) := cell_of b9.res2 2
  exact bodyPost_ret (v := .tuple #[.agg #[.slice (some ⟨a2, 0, none⟩) n cap2, .int .i64 ((h) : Nat)], .agg #[.bool true, .bool false, .int .u32 0]]) (by simp [results, Try.results32, go_sem, t0, t1, u0, u1, u2]) rfl ⟨a2, cap2, by simp [hn], b9.bel, b9.row, by omega⟩

set_option maxHeartbeats 4000000 in
theorem ruse_free {a n cap h i : Nat} {R : List Pl} {w : World} (k : Int) (s : Row w 78 a cap R) (hn : R.length = n) (hl : n ≤ 1024) (hk : atR R k = none) (hfr : freeR R = some i) :
    Calls Try.prog 32 #[.agg #[.slice (some ⟨a, 0, none⟩) n cap, .int .i64 (h : Nat)], .int .u32 k] w fun e w' => RUsed w (useR R h k) e w' := by
  have hat : atI R k = -1 := by unfold atI; rw [hk]
  obtain ⟨x0, hx0, hf0⟩ := freeR_some hfr
  have hi := (List.getElem?_eq_some_iff.1 hx0).1
  have hu : useR R h k = ⟨R.set i ⟨k, true, false⟩, h, false, false, 0⟩ := by unfold useR; rw [hk]; simp only [hfr]
  rw [hu]
  clear hu hk
  have lt := s.lt
  go_enter Try.func32, Try.ntmps32
  go_upto_region 1 with fail
  refine wp_seen (RB w a n cap h #[.slice none 0 0, .int .i64 0] #[.bool false, .bool false, .int .u32 0] 37 R) ⟨(((Below.refl _ _).alloc (Nat.le_refl _) _).alloc (by simp) _).alloc (by simp; omega) _, heap_alloc (heap_alloc (heap_new rfl) _) _, heap_alloc (heap_new (by simp)) _, heap_new (by simp), ((s.alloc _).alloc _).alloc _, by omega, by omega, by omega⟩ ?_
  intro W b
  have c0 : W.cell? ⟨w.heap.size, 0, none⟩ = some (.slice (some ⟨a, 0, none⟩) n cap) := cell_of b.box 0
  have c1 : W.cell? ⟨w.heap.size, 1, none⟩ = some (.int .i64 (h : Nat)) := cell_of b.box 1
  go_upto_region 2 with (first | (go_at_call 36; refine (copy_n b.row hn (by omega) hl).mono ?_; rintro e Wc ⟨a2, cap2, rfl, bc, rc, ac⟩; have bb := b.below bc; clear c0 c1; have c0 : Wc.cell? ⟨w.heap.size, 0, none⟩ = some (.slice (some ⟨a, 0, none⟩) n cap) := cell_of bb.box 0; have c1 : Wc.cell? ⟨w.heap.size, 1, none⟩ = some (.int .i64 (h : Nat)) := cell_of bb.box 1; have gc0 : Wc.frozen? ⟨w.heap.size, 0, none⟩ = false := frozen_of bb.box 0; have gc1 : Wc.frozen? ⟨w.heap.size, 1, none⟩ = false := frozen_of bb.box 1))
  have ha : w.heap.size + 1 + 1 < a2 := Nat.lt_of_lt_of_le (lt_of_heap b.res2) ac
  refine wp_seen (RB w a2 n cap2 h #[.slice none 0 0, .int .i64 0] #[.bool false, .bool false, .int .u32 0] 37 R) (bb.setBox rc ha) ?_
  intro W1 b1
  clear c0 c1 gc0 gc1 bb b rc ac bc
  have c0 : W1.cell? ⟨w.heap.size, 0, none⟩ = some (.slice (some ⟨a2, 0, none⟩) n cap2) := cell_of b1.box 0
  have c1 : W1.cell? ⟨w.heap.size, 1, none⟩ = some (.int .i64 (h : Nat)) := cell_of b1.box 1
  have gc0 : W1.frozen? ⟨w.heap.size, 0, none⟩ = false := frozen_of b1.box 0
  have gc1 : W1.frozen? ⟨w.heap.size, 1, none⟩ = false := frozen_of b1.box 1
  go_upto_region 3 with (first | (go_at_call 31; refine (at_n k b1.row hn hl).mono ?_; rintro e Wa ⟨rfl, rfl⟩; rw [hat]))
  refine wp_seen (RB w a2 n cap2 h #[.slice none 0 0, .int .i64 0] #[.bool false, .bool false, .int .u32 0] 37 R) (b1.below ((Below.refl _ _).alloc (Nat.le_refl _) _)) ?_
  intro W2 b2
  clear c0 c1 gc0 gc1
  clear b1
  go_wp2_with fail
  go_loopw [7] (fun v wr => ∃ j : Nat, j < n ∧ v = .int .i64 (j : Nat) ∧ wr = W2 ∧ ∀ i y, i < j → R[i]? = some y → y.full = true) (fun v _ => n - (intOf v).toNat)
  case atStart => exact ⟨0, by omega, rfl, rfl, fun i y hj => by omega⟩
  case round =>
    obtain ⟨j, hj, rfl, rfl, ha'⟩ := hrel
    have hlt : j < R.length := by omega
    obtain ⟨x, hx⟩ : ∃ x, R[j]? = some x := ⟨_, List.getElem?_eq_getElem hlt⟩
    have hj' : ((j : Nat) : Int) < (n : Int) := by omega
    have e1 : wrap64 ((j : Int) + 1) = (j : Int) + 1 := wrap_in (by omega)
    have c0 : wr.cell? ⟨w.heap.size, 0, none⟩ = some (.slice (some ⟨a2, 0, none⟩) n cap2) := cell_of b2.box 0
    have c1 : wr.cell? ⟨w.heap.size, 1, none⟩ = some (.int .i64 (h : Nat)) := cell_of b2.box 1
    have gc0 : wr.frozen? ⟨w.heap.size, 0, none⟩ = false := frozen_of b2.box 0
    have gc1 : wr.frozen? ⟨w.heap.size, 1, none⟩ = false := frozen_of b2.box 1
    have f0 : wr.cell? ⟨a2, j * 3, none⟩ = some (.int .u32 x.key) := b2.row.cell hx 0 (by omega)
    have f1 : wr.cell? ⟨a2, j * 3 + 1, none⟩ = some (.bool x.full) := b2.row.cell hx 1 (by omega)
    have f2 : wr.cell? ⟨a2, j * 3 + 2, none⟩ = some (.bool x.mark) := b2.row.cell hx 2 (by omega)
    have gf0 : wr.frozen? ⟨a2, j * 3, none⟩ = false := b2.row.frozen _
    have gf1 : wr.frozen? ⟨a2, j * 3 + 1, none⟩ = false := b2.row.frozen _
    have gf2 : wr.frozen? ⟨a2, j * 3 + 2, none⟩ = false := b2.row.frozen _
    cases hfu : x.full with
    | false =>
      have hv := freeR_lt hlt ha' (by rw [List.getElem?_eq_getElem hlt] at hx; cases hx; exact hfu)
      rw [hfr] at hv
      obtain rfl : i = j := by simpa using hv
      rw [hfu] at f1
      go_upto_region 11 with fail
      refine wp_seen (RB w a2 n cap2 h #[.slice none 0 0, .int .i64 0] #[.bool false, .bool false, .int .u32 0] 37 (R.set i ⟨k, true, false⟩)) (b2.setPlace hi (by omega) ⟨k, true, false⟩) ?_
      intro W3 b3
      clear c0 c1 gc0 gc1
      clear f0 f1 f2 gf0 gf1 gf2
      clear b2
      have c0 : W3.cell? ⟨w.heap.size, 0, none⟩ = some (.slice (some ⟨a2, 0, none⟩) n cap2) := cell_of b3.box 0
      have c1 : W3.cell? ⟨w.heap.size, 1, none⟩ = some (.int .i64 (h : Nat)) := cell_of b3.box 1
      have gc0 : W3.frozen? ⟨w.heap.size, 0, none⟩ = false := frozen_of b3.box 0
      have gc1 : W3.frozen? ⟨w.heap.size, 1, none⟩ = false := frozen_of b3.box 1
      have t0 : W3.cell? ⟨w.heap.size + 1, 0, none⟩ = some (.slice none 0 0) := cell_of b3.res 0
      have t1 : W3.cell? ⟨w.heap.size + 1, 1, none⟩ = some (.int .i64 0) := cell_of b3.res 1
      have gt0 : W3.frozen? ⟨w.heap.size + 1, 0, none⟩ = false := frozen_of b3.res 0
      have gt1 : W3.frozen? ⟨w.heap.size + 1, 1, none⟩ = false := frozen_of b3.res 1
      have u0 : W3.cell? ⟨w.heap.size + 1 + 1, 0, none⟩ = some (.bool false) := cell_of b3.res2 0
      have u1 : W3.cell? ⟨w.heap.size + 1 + 1, 1, none⟩ = some (.bool false) := cell_of b3.res2 1
      have u2 : W3.cell? ⟨w.heap.size + 1 + 1, 2, none⟩ = some (.int .u32 0) := cell_of b3.res2 2
      have gu0 : W3.frozen? ⟨w.heap.size + 1 + 1, 0, none⟩ = false := frozen_of b3.res2 0
      have gu1 : W3.frozen? ⟨w.heap.size + 1 + 1, 1, none⟩ = false := frozen_of b3.res2 1
      have gu2 : W3.frozen? ⟨w.heap.size + 1 + 1, 2, none⟩ = false := frozen_of b3.res2 2
      go_wp2_with fail
      refine post_seen (RB w a2 n cap2 (h) #[.slice (some ⟨a2, 0, none⟩) n cap2, .int .i64 ((h) : Nat)] #[.bool false, .bool false, .int .u32 0] 37 (R.set i ⟨k, true, false⟩)) ((b3.setRes _ _).setTurn _ _ _) ?_
      intro W9 b9
      clear c0 c1 gc0 gc1
      clear t0 t1 gt0 gt1 u0 u1 u2 gu0 gu1 gu2
      have t0 : W9.cell? ⟨w.heap.size + 1, 0, none⟩ = some (.slice (some ⟨a2, 0, none⟩) n cap2) := cell_of b9.res 0
      have t1 : W9.cell? ⟨w.heap.size + 1, 1, none⟩ = some (.int .i64 ((h) : Nat)) := cell_of b9.res 1
      have u0 : W9.cell? ⟨w.heap.size + 1 + 1, 0, none⟩ = some (.bool false) := cell_of b9.res2 0
      have u1 : W9.cell? ⟨w.heap.size + 1 + 1, 1, none⟩ = some (.bool false) := cell_of b9.res2 1
      have u2 : W9.cell? ⟨w.heap.size + 1 + 1, 2, none⟩ = some (.int .u32 0) := cell_of b9.res2 2
      exact bodyPost_ret (v := .tuple #[.agg #[.slice (some ⟨a2, 0, none⟩) n cap2, .int .i64 ((h) : Nat)], .agg #[.bool false, .bool false, .int .u32 0]]) (by simp [results, Try.results32, go_sem, t0, t1, u0, u1, u2]) rfl ⟨a2, cap2, by simp [hn], b9.bel, b9.row, by omega⟩

    | true =>
      rw [hfu] at f1
      have hj2 : j + 1 < n := by
        apply Decidable.byContradiction
        intro hno
        by_cases hij : i < j
        · rw [ha' i x0 hij hx0] at hf0; cases hf0
        · obtain rfl : i = j := by omega
          rw [hx] at hx0; cases hx0; rw [hfu] at hf0; cases hf0
      have ha2 : ∀ i y, i < j + 1 → R[i]? = some y → y.full = true := by
        intro i y hi hy
        by_cases hij : i < j
        · exact ha' i y hij hy
        · obtain rfl : i = j := by omega
          rw [hx] at hy; cases hy; exact hfu
      go_wp2_with fail
      go_roundw
      case rel => exact ⟨j + 1, hj2, by go_num, trivial, ha2⟩
      all_goals (simp [intOf]; omega)

end Go.Proofs.Ytbjhpefnonnkmaa
