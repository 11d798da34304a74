/-
  Contracts of the plain functions of packages budget and cubbyholelaw17.
-/
import Derived.Test.YtfoccffngdhlfaaRows
import Derived.WalkKit
import Derived.ProofKit
import Derived.OpenShut
import Derived.ShutString
import Derived.Outline
import Derived.WalkLawsBesides
import Derived.BigQuiet
import Derived.Deep.QuietTactic
import Derived.Lib.Hide
import Derived.Laws.Bits64
import Derived.Laws.BitsAllLaws
namespace Go.Proofs.Ytfoccffngdhlfaa
open Go.ChangeShapes Go.WideShapes Go.ChangeAt Go.RowKit
set_option linter.unusedVariables false

theorem ret_i64 {a b : Int} (h : a = b) : Ending.returned (.int .i64 a) = .returned (.int .i64 b) := by rw [h]
theorem ret_bool {a b : Bool} (h : a = b) : Ending.returned (.bool a) = .returned (.bool b) := by rw [h]
theorem ret_two {a b c d : Int} (h : a = b) (k : c = d) : Ending.returned (.tuple #[.int .i64 a, .int .i64 c]) = .returned (.tuple #[.int .i64 b, .int .i64 d]) := by rw [h, k]
theorem below_drewN {B : Nat} {a w : World} (h : Below B a w) (n : Nat) : Below B a (w.drewN n) := ⟨h.os, h.tape, h.output, h.size, h.block⟩

/-- Which budgets are allowed. -/
def okB (c b : Int) : Bool := decide (1 ≤ c) && decide (c ≤ 1048576) && decide (1 ≤ b) && decide (b ≤ 1099511627776)
theorem okB_iff {c b : Int} : okB c b = true ↔ 1 ≤ c ∧ c ≤ 1048576 ∧ 1 ≤ b ∧ b ≤ 1099511627776 := by
  unfold okB; simp [Bool.and_eq_true, and_assoc]

/-- Which segments and costs are allowed. -/
def fairB (g c : Int) : Bool := (decide (g = 0) || decide (g = 1)) && decide (0 ≤ c) && decide (c ≤ 1099511627776)
theorem fairB_iff {g c : Int} : fairB g c = true ↔ (g = 0 ∨ g = 1) ∧ 0 ≤ c ∧ c ≤ 1099511627776 := by
  unfold fairB; simp [Bool.and_eq_true, Bool.or_eq_true, and_assoc]

theorem law_allowed_any (c b : Int) (w : World) :
    Calls Try.prog 9 #[.int .i64 c, .int .i64 b] w fun e w' => e = .returned (.bool (okB c b)) ∧ w = w' := by
  go_enter Try.func9, Try.ntmps9
  go_wp2_with fail
  all_goals go_ret
  all_goals refine ⟨ret_bool ?_, rfl⟩
  all_goals (unfold okB; refine Bool.eq_iff_iff.2 ?_; simp; try omega)

theorem allowed_any (c b : Int) (w : World) :
    Calls Try.prog 29 #[.int .i64 c, .int .i64 b] w fun e w' => e = .returned (.bool (okB c b)) ∧ w = w' := by
  go_enter Try.func29, Try.ntmps29
  go_wp2_with fail
  all_goals go_ret
  all_goals refine ⟨ret_bool ?_, rfl⟩
  all_goals (unfold okB; refine Bool.eq_iff_iff.2 ?_; simp; try omega)

theorem fair_any (g c : Int) (w : World) :
    Calls Try.prog 16 #[.int .i64 g, .int .i64 c] w fun e w' => e = .returned (.bool (fairB g c)) ∧ w = w' := by
  go_enter Try.func16, Try.ntmps16
  go_wp2_with fail
  all_goals go_ret
  all_goals refine ⟨ret_bool ?_, rfl⟩
  all_goals (unfold fairB; refine Bool.eq_iff_iff.2 ?_; simp; try omega)

def eq2 (a b x y : Int) : Bool := decide (a = x) && decide (b = y)
theorem pair_any (a b x y : Int) (w : World) :
    Calls Try.prog 26 #[.int .i64 a, .int .i64 b, .int .i64 x, .int .i64 y] w fun e w' => e = .returned (.bool (eq2 a b x y)) ∧ w = w' := by
  go_enter Try.func26, Try.ntmps26
  go_wp2_with fail
  all_goals go_ret
  all_goals refine ⟨ret_bool ?_, rfl⟩
  all_goals (unfold eq2; refine Bool.eq_iff_iff.2 ?_; simp; try omega)

theorem eq2_iff {a b x y : Int} : eq2 a b x y = true ↔ a = x ∧ b = y := by unfold eq2; simp

/-- A budget: what entries may have, and what those of the two segments have. -/
structure Bud where
  mc : Int
  mb : Int
  c0 : Int
  b0 : Int
  c1 : Int
  b1 : Int
def Bud.cells (K : Bud) : Array Value := #[.int .i64 K.mc, .int .i64 K.mb, .int .i64 K.c0, .int .i64 K.b0, .int .i64 K.c1, .int .i64 K.b1]
/-- A budget lies in a block. -/
def At (w : World) (p : Nat) (K : Bud) : Prop := w.heap[p]? = some (.cells K.cells 56 (0, 0))
/-- What may change: the cells of one block. -/
structure Keep (p : Nat) (w w' : World) : Prop where
  os : w'.os = w.os
  tape : w'.tape = w.tape
  output : w'.output = w.output
  size : w.heap.size ≤ w'.heap.size
  block : ∀ k, k < w.heap.size → k ≠ p → w'.heap[k]? = w.heap[k]?

theorem Keep.refl (p : Nat) (w : World) : Keep p w w := ⟨rfl, rfl, rfl, Nat.le_refl _, fun _ _ _ => rfl⟩
theorem Keep.trans {p : Nat} {a b c : World} (h : Keep p a b) (k : Keep p b c) : Keep p a c :=
  ⟨k.os.trans h.os, k.tape.trans h.tape, k.output.trans h.output, Nat.le_trans h.size k.size, fun i hi hp => (k.block i (Nat.lt_of_lt_of_le hi h.size) hp).trans (h.block i hi hp)⟩
theorem Keep.of_below {p : Nat} {a b : World} (h : Below a.heap.size a b) : Keep p a b := ⟨h.os, h.tape, h.output, h.size, fun k hk _ => h.block k hk⟩
theorem Keep.below {p B : Nat} {a b : World} (h : Keep p a b) (hp : B ≤ p) (hs : B ≤ a.heap.size) : Below B a b := ⟨h.os, h.tape, h.output, h.size, fun k hk => h.block k (by omega) (by omega)⟩
theorem Keep.alloc {p : Nat} {a w : World} (h : Keep p a w) (o : Obj) : Keep p a (w.alloc o) :=
  h.trans (Keep.of_below ((Below.refl _ _).alloc (Nat.le_refl _) o))
theorem Keep.setCell {p : Nat} {a w : World} (h : Keep p a w) (i : Nat) (u : Value) : Keep p a (w.setCell ⟨p, i, none⟩ u) :=
  ⟨h.os, h.tape, h.output, by
    have : (w.setCell ⟨p, i, none⟩ u).heap.size = w.heap.size := by simp [World.setCell]
    rw [this]; exact h.size, fun k hk hp => (Below.heap_setCell w _ u k hp).trans (h.block k hk hp)⟩
theorem Keep.drewN {p : Nat} {a w : World} (h : Keep p a w) (n : Nat) : Keep p a (w.drewN n) := ⟨h.os, h.tape, h.output, h.size, h.block⟩

theorem lt_of_heap {w : World} {p : Nat} {o : Obj} (h : w.heap[p]? = some o) : p < w.heap.size := (Array.getElem?_eq_some_iff.1 h).1
theorem At.lt {w : World} {p : Nat} {K : Bud} (h : At w p K) : p < w.heap.size := lt_of_heap h
theorem At.keep {w w' : World} {p q : Nat} {K : Bud} (h : At w q K) (k : Keep p w w') (hne : q ≠ p) : At w' q K := (k.block q h.lt hne).trans h
theorem At.below {w w' : World} {p : Nat} {K : Bud} (h : At w p K) (k : Below w.heap.size w w') : At w' p K := (k.block p h.lt).trans h
theorem heap_alloc {w : World} {p : Nat} {o : Obj} (h : w.heap[p]? = some o) (o' : Obj) : (w.alloc o').heap[p]? = some o := (Below.heap_alloc w o' p (lt_of_heap h)).trans h
theorem heap_drewN {w : World} {p : Nat} {o : Obj} (h : w.heap[p]? = some o) (n : Nat) : (w.drewN n).heap[p]? = some o := h
theorem heap_set {w : World} {p i : Nat} {cs : Array Value} {T : TypeId} {f : Nat × Nat} (h : w.heap[p]? = some (.cells cs T f)) (u : Value) :
    (w.setCell ⟨p, i, none⟩ u).heap[p]? = some (.cells (cs.setIfInBounds i u) T f) := by
  simp [World.setCell, Array.getElem?_modify, h]
theorem At.cell {w : World} {p : Nat} {K : Bud} (h : At w p K) (i : Nat) : w.cell? ⟨p, i, none⟩ = K.cells[i]? := by
  unfold World.cell?; rw [show w.heap[(⟨p, i, none⟩ : Addr).block]? = _ from h]; rfl
theorem At.frozen {w : World} {p : Nat} {K : Bud} (h : At w p K) (i : Nat) : w.frozen? ⟨p, i, none⟩ = false := by
  unfold World.frozen?; rw [show w.heap[(⟨p, i, none⟩ : Addr).block]? = _ from h]; simp
theorem At.new {w : World} {K : Bud} : At (w.alloc (.cells K.cells 56)) w.heap.size K := by
  show (w.heap.push _)[w.heap.size]? = _
  simp

theorem none_nil (w : World) : Calls Try.prog 30 #[.pointer none] w fun e w' => e = .returned (.bool true) ∧ w = w' := by
  go_enter Try.func30, Try.ntmps30
  go_wp2_with fail
  go_ret
  exact ⟨rfl, rfl⟩

theorem none_any (p : Nat) (K : Bud) (w : World) (h : At w p K) :
    Calls Try.prog 30 #[.pointer (some ⟨p, 0, none⟩)] w fun e w' => e = .returned (.bool (eq2 K.mc K.mb 0 0)) ∧ w = w' := by
  have f0 : w.cell? ⟨p, 0, none⟩ = some (.int .i64 K.mc) := h.cell 0
  have f1 : w.cell? ⟨p, 1, none⟩ = some (.int .i64 K.mb) := h.cell 1
  go_enter Try.func30, Try.ntmps30
  go_wp2_with fail
  all_goals go_ret
  all_goals refine ⟨ret_bool ?_, rfl⟩
  all_goals (unfold eq2; refine Bool.eq_iff_iff.2 ?_; simp; try omega)

theorem plus_any (a b c d : Int) (w : World) :
    Calls Try.prog 32 #[.agg #[.int .i64 a, .int .i64 b], .agg #[.int .i64 c, .int .i64 d]] w fun e w' => e = .returned (.agg #[.int .i64 (wrap64 (a + c)), .int .i64 (wrap64 (b + d))]) ∧
      w' = ((w.alloc (.cells #[.int .i64 a, .int .i64 b] 53)).alloc (.cells #[.int .i64 c, .int .i64 d] 53)).alloc (.cells #[.int .i64 (wrap64 (a + c)), .int .i64 (wrap64 (b + d))] 53) := by
  go_enter Try.func32, Try.ntmps32
  go_wp2_with fail
  exact bodyPost_ret (v := .agg #[.int .i64 (wrap64 (a + c)), .int .i64 (wrap64 (b + d))]) (by simp [results, Try.results32, go_sem]) rfl ⟨rfl, rfl⟩

def fitsB (a b : Int) : Bool := decide (a ≤ 2097152) && decide (b ≤ 2305843009213693952)
theorem fits_any (a b : Int) (w : World) :
    Calls Try.prog 33 #[.agg #[.int .i64 a, .int .i64 b]] w fun e w' => e = .returned (.bool (fitsB a b)) ∧ w' = w.alloc (.cells #[.int .i64 a, .int .i64 b] 53) := by
  go_enter Try.func33, Try.ntmps33
  go_wp2_with fail
  all_goals go_ret
  all_goals refine ⟨ret_bool ?_, rfl⟩
  all_goals (unfold fitsB; refine Bool.eq_iff_iff.2 ?_; simp; try omega)
end Go.Proofs.Ytfoccffngdhlfaa
