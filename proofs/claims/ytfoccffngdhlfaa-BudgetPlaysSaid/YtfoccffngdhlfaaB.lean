/-
  Contracts of the methods of budget.Budget: check, has, Add, Remove, Set and Change.
-/
import Derived.Test.YtfoccffngdhlfaaA
import Derived.StillTailTactics
import Derived.Deep.RegionWith
import Derived.Deep.RegionHeld3
namespace Go.Proofs.Ytfoccffngdhlfaa
open Go.ChangeShapes Go.WideShapes Go.ChangeAt Go.RowKit
set_option linter.unusedVariables false

theorem check_nil (g c : Int) (w : World) :
    Calls Try.prog 31 #[.pointer none, .int .i64 g, .int .i64 c] w fun e w' => e = .returned (.int .i64 1) ∧ w = w' := by
  go_enter Try.func31, Try.ntmps31
  go_wp2_with (first | (go_at_call 30; refine (none_nil _).mono ?_; rintro e w' ⟨rfl, rfl⟩))
  all_goals go_ret
  all_goals exact ⟨rfl, rfl⟩

theorem check_zero (p : Nat) (K : Bud) (g c : Int) (w : World) (h : At w p K) (hz : eq2 K.mc K.mb 0 0 = true) :
    Calls Try.prog 31 #[.pointer (some ⟨p, 0, none⟩), .int .i64 g, .int .i64 c] w fun e w' => e = .returned (.int .i64 1) ∧ w = w' := by
  go_enter Try.func31, Try.ntmps31
  go_wp2_with (first | (go_at_call 30; refine (none_any p K _ h).mono ?_; rintro e w' ⟨rfl, rfl⟩))
  all_goals go_ret
  all_goals exact ⟨rfl, rfl⟩

/-- The error of a segment and a cost. -/
def argE (g c : Int) : Int := if fairB g c = true then 0 else 2
theorem check_any (p : Nat) (K : Bud) (g c : Int) (w : World) (h : At w p K) (hz : eq2 K.mc K.mb 0 0 = false) :
    Calls Try.prog 31 #[.pointer (some ⟨p, 0, none⟩), .int .i64 g, .int .i64 c] w fun e w' => e = .returned (.int .i64 (argE g c)) ∧ w = w' := by
  go_enter Try.func31, Try.ntmps31
  go_wp2_with (first | (go_at_call 30; refine (none_any p K _ h).mono ?_; rintro e w' ⟨rfl, rfl⟩))
  all_goals go_ret
  all_goals refine ⟨ret_i64 ?_, rfl⟩
  all_goals (unfold argE; simp only [fairB_iff]; first | (rw [if_pos (by omega)]) | (rw [if_neg (by omega)]))
theorem argNe {g c : Int} (h : fairB g c = false) : argE g c = 2 := by unfold argE; rw [h]; rfl
theorem argOk {g c : Int} (h : fairB g c = true) : argE g c = 0 := by unfold argE; rw [if_pos h]

def Bud.cnt (K : Bud) (g : Int) : Int := if g = 0 then K.c0 else K.c1
def Bud.cost (K : Bud) (g : Int) : Int := if g = 0 then K.b0 else K.b1
def Bud.put (K : Bud) (g n c : Int) : Bud := if g = 0 then { K with c0 := n, b0 := c } else { K with c1 := n, b1 := c }
structure Bud.Inv (K : Bud) : Prop where
  ok : okB K.mc K.mb = true
  c0 : 0 ≤ K.c0
  C0 : K.c0 ≤ 2097152
  b0 : 0 ≤ K.b0
  B0 : K.b0 ≤ 2305843009213693952
  c1 : 0 ≤ K.c1
  C1 : K.c1 ≤ 2097152
  b1 : 0 ≤ K.b1
  B1 : K.b1 ≤ 2305843009213693952
theorem Bud.Inv.nz {K : Bud} (h : K.Inv) : eq2 K.mc K.mb 0 0 = false := by
  have := okB_iff.1 h.ok
  unfold eq2; simp; omega

def hasB (n b c : Int) : Bool := (decide (1 < n) && decide (c ≤ b)) || (decide (n = 1) && decide (b = c))
theorem hasB_iff {n b c : Int} : hasB n b c = true ↔ (1 < n ∧ c ≤ b) ∨ (n = 1 ∧ b = c) := by unfold hasB; simp
theorem fitsB_iff {a b : Int} : fitsB a b = true ↔ a ≤ 2097152 ∧ b ≤ 2305843009213693952 := by unfold fitsB; simp
/-- What a segment has. -/
def Bud.Seg (K : Bud) (g n b : Int) : Prop := (g = 0 ∧ K.c0 = n ∧ K.b0 = b) ∨ (g = 1 ∧ K.c1 = n ∧ K.b1 = b)
theorem Bud.seg (K : Bud) {g : Int} (hg : g = 0 ∨ g = 1) : K.Seg g (K.cnt g) (K.cost g) := by
  rcases hg with rfl | rfl
  · exact .inl ⟨rfl, rfl, rfl⟩
  · exact .inr ⟨rfl, rfl, rfl⟩
theorem has_any (p : Nat) (K : Bud) (g n b c : Int) (w : World) (h : At w p K) (hg : K.Seg g n b) :
    Calls Try.prog 34 #[.pointer (some ⟨p, 0, none⟩), .int .i64 g, .int .i64 c] w fun e w' => e = .returned (.bool (hasB n b c)) ∧ Below w.heap.size w w' := by
  have lt := h.lt
  have f2 : w.cell? ⟨p, 2, none⟩ = some (.int .i64 K.c0) := h.cell 2
  have f3 : w.cell? ⟨p, 3, none⟩ = some (.int .i64 K.b0) := h.cell 3
  have f4 : w.cell? ⟨p, 4, none⟩ = some (.int .i64 K.c1) := h.cell 4
  have f5 : w.cell? ⟨p, 5, none⟩ = some (.int .i64 K.b1) := h.cell 5
  rcases hg with ⟨rfl, rfl, rfl⟩ | ⟨rfl, rfl, rfl⟩
  all_goals go_enter Try.func34, Try.ntmps34
  all_goals go_wp2_with fail
  all_goals go_ret
  all_goals refine ⟨ret_bool ?_, (Below.refl _ _).alloc (Nat.le_refl _) _⟩
  all_goals (refine Bool.eq_iff_iff.2 ?_; simp only [hasB_iff]; simp; try omega)

theorem Bud.Seg.bounds {K : Bud} {g n b : Int} (hI : K.Inv) (h : K.Seg g n b) : 0 ≤ n ∧ n ≤ 2097152 ∧ 0 ≤ b ∧ b ≤ 2305843009213693952 := by
  have := hI.c0; have := hI.C0; have := hI.b0; have := hI.B0; have := hI.c1; have := hI.C1; have := hI.b1; have := hI.B1
  rcases h with ⟨_, h, k⟩ | ⟨_, h, k⟩ <;> omega
theorem wrap_in {x : Int} (h : -9223372036854775808 ≤ x ∧ x ≤ 9223372036854775807) : wrap64 x = x := IntWalk.wrap64_in x h

theorem wp_seen {P : Program} {c : Code} {Q : Exit → Act → World → Prop} {a : Act} {w : World} (S : World → Prop) (hS : S w) (h : ∀ W, S W → Code.wp P c Q a W) : Code.wp P c Q a w := h w hS
theorem heap_new {w : World} {n : Nat} {o : Obj} (h : n = w.heap.size) : (w.alloc o).heap[n]? = some o := by
  subst h; show (w.heap.push _)[w.heap.size]? = _; simp
theorem heap_drew {w : World} {p : Nat} {o : Obj} (h : w.heap[p]? = some o) : w.drew.heap[p]? = some o := h
theorem Keep.drew {p : Nat} {a w : World} (h : Keep p a w) : Keep p a w.drew := ⟨h.os, h.tape, h.output, h.size, h.block⟩
theorem cell_of {w : World} {p : Nat} {cs : Array Value} {T : TypeId} {f : Nat × Nat} (h : w.heap[p]? = some (.cells cs T f)) (i : Nat) : w.cell? ⟨p, i, none⟩ = cs[i]? := by
  unfold World.cell?; rw [show w.heap[(⟨p, i, none⟩ : Addr).block]? = _ from h]; rfl
theorem frozen_of {w : World} {p : Nat} {cs : Array Value} {T : TypeId} (h : w.heap[p]? = some (.cells cs T (0, 0))) (i : Nat) : w.frozen? ⟨p, i, none⟩ = false := by
  unfold World.frozen?; rw [show w.heap[(⟨p, i, none⟩ : Addr).block]? = _ from h]; simp
theorem heap_below {w w' : World} {p : Nat} {o : Obj} (h : w.heap[p]? = some o) (k : Below w.heap.size w w') : w'.heap[p]? = some o := (k.block p (lt_of_heap h)).trans h
theorem plus_bel (a b c d x y : Int) (h : wrap64 (a + c) = x) (k : wrap64 (b + d) = y) (w : World) :
    Calls Try.prog 32 #[.agg #[.int .i64 a, .int .i64 b], .agg #[.int .i64 c, .int .i64 d]] w fun e w' => e = .returned (.agg #[.int .i64 x, .int .i64 y]) ∧ Below w.heap.size w w' := by
  subst h; subst k
  refine (plus_any a b c d w).mono ?_
  rintro e w' ⟨rfl, rfl⟩
  exact ⟨rfl, by (repeat (first | exact Below.refl _ _ | (refine Below.alloc ?_ (by first | omega | (simp <;> omega)) _) | (refine Below.drew ?_) | (refine below_drewN ?_ _)))⟩
theorem fits_bel (a b : Int) (w : World) :
    Calls Try.prog 33 #[.agg #[.int .i64 a, .int .i64 b]] w fun e w' => e = .returned (.bool (fitsB a b)) ∧ Below w.heap.size w w' := by
  refine (fits_any a b w).mono ?_
  rintro e w' ⟨rfl, rfl⟩
  exact ⟨rfl, by (repeat (first | exact Below.refl _ _ | (refine Below.alloc ?_ (by first | omega | (simp <;> omega)) _) | (refine Below.drew ?_) | (refine below_drewN ?_ _)))⟩
theorem wp_below {P : Program} {c : Code} {Q : Exit → Act → World → Prop} {a : Act} {w w0 : World} (hb : Below w0.heap.size w0 w) (h : ∀ W, Below w0.heap.size w0 W → Code.wp P c Q a W) : Code.wp P c Q a w := h w hb

theorem add_arg (p : Nat) (K : Bud) (g c : Int) (w : World) (h : At w p K) (hI : K.Inv) (hf : fairB g c = false) :
    Calls Try.prog 13 #[.pointer (some ⟨p, 0, none⟩), .int .i64 g, .int .i64 c] w fun e w' => e = .returned (.int .i64 2) ∧ w = w' := by
  have hn := hI.nz
  have ha := argNe hf
  go_enter Try.func13, Try.ntmps13
  go_wp2_with (first | (go_at_call 31; refine (check_any p K g c _ h hn).mono ?_; rw [ha]; rintro e w' ⟨rfl, rfl⟩))
  go_ret
  exact ⟨rfl, rfl⟩
theorem remove_arg (p : Nat) (K : Bud) (g c : Int) (w : World) (h : At w p K) (hI : K.Inv) (hf : fairB g c = false) :
    Calls Try.prog 18 #[.pointer (some ⟨p, 0, none⟩), .int .i64 g, .int .i64 c] w fun e w' => e = .returned (.int .i64 2) ∧ w = w' := by
  have hn := hI.nz
  have ha := argNe hf
  go_enter Try.func18, Try.ntmps18
  go_wp2_with (first | (go_at_call 31; refine (check_any p K g c _ h hn).mono ?_; rw [ha]; rintro e w' ⟨rfl, rfl⟩))
  go_ret
  exact ⟨rfl, rfl⟩
theorem remove_no (p : Nat) (K : Bud) (g n b c : Int) (w : World) (h : At w p K) (hI : K.Inv) (hf : fairB g c = true) (hg : K.Seg g n b) (hz : hasB n b c = false) :
    Calls Try.prog 18 #[.pointer (some ⟨p, 0, none⟩), .int .i64 g, .int .i64 c] w fun e w' => e = .returned (.int .i64 9) ∧ Below w.heap.size w w' := by
  have hn := hI.nz
  have ha := argOk hf
  go_enter Try.func18, Try.ntmps18
  go_wp2_with (first | (go_at_call 31; refine (check_any p K g c _ h hn).mono ?_; rw [ha]; rintro e w' ⟨rfl, rfl⟩) | (go_at_call 34; refine (has_any p K g n b c _ h hg).mono ?_; rw [hz]; rintro e w' ⟨rfl, hb⟩))
  go_ret
  exact ⟨rfl, hb⟩

theorem add_full0 (p : Nat) (K : Bud) (c : Int) (w : World) (h : At w p K) (hI : K.Inv) (hf : fairB 0 c = true) (hz : fitsB (K.c0 + 1) (K.b0 + c) = false) :
    Calls Try.prog 13 #[.pointer (some ⟨p, 0, none⟩), .int .i64 0, .int .i64 c] w fun e w' => e = .returned (.int .i64 7) ∧ Below w.heap.size w w' := by
  have hn := hI.nz
  have ha := argOk hf
  obtain ⟨_, k0, k1⟩ := fairB_iff.1 hf
  have n0 := hI.c0; have n1 := hI.C0; have b0 := hI.b0; have b1 := hI.B0
  have lt := h.lt
  have f2 : w.cell? ⟨p, 2, none⟩ = some (.int .i64 K.c0) := h.cell 2
  have f3 : w.cell? ⟨p, 3, none⟩ = some (.int .i64 K.b0) := h.cell 3
  have g2 : w.frozen? ⟨p, 2, none⟩ = false := h.frozen 2
  have g3 : w.frozen? ⟨p, 3, none⟩ = false := h.frozen 3
  have e1 : wrap64 (K.c0 + 1) = K.c0 + 1 := wrap_in (by omega)
  have e2 : wrap64 (K.b0 + c) = K.b0 + c := wrap_in (by omega)
  go_enter Try.func13, Try.ntmps13
  go_wp2_with (first
    | (go_at_call 31; refine (check_any p K 0 c _ h hn).mono ?_; rw [ha]; rintro e w' ⟨rfl, rfl⟩)
    | (go_at_call 32; refine (plus_any _ _ _ _ _).mono ?_; rw [e1, e2]; rintro e w' ⟨rfl, rfl⟩)
    | (go_at_call 33; refine (fits_any _ _ _).mono ?_; rw [hz]; rintro e w' ⟨rfl, rfl⟩))
  go_ret
  exact ⟨rfl, by (repeat (first | exact Below.refl _ _ | (refine Below.alloc ?_ (by first | omega | (simp <;> omega)) _) | (refine Below.drew ?_) | (refine below_drewN ?_ _)))⟩
theorem add_ok0 (p : Nat) (K : Bud) (c : Int) (w : World) (h : At w p K) (hI : K.Inv) (hf : fairB 0 c = true) (hz : fitsB (K.c0 + 1) (K.b0 + c) = true) :
    Calls Try.prog 13 #[.pointer (some ⟨p, 0, none⟩), .int .i64 0, .int .i64 c] w fun e w' => e = .returned (.int .i64 0) ∧ Keep p w w' ∧ At w' p (K.put 0 (K.c0 + 1) (K.b0 + c)) := by
  have hn := hI.nz
  have ha := argOk hf
  obtain ⟨_, k0, k1⟩ := fairB_iff.1 hf
  have n0 := hI.c0; have n1 := hI.C0; have b0 := hI.b0; have b1 := hI.B0
  have lt := h.lt
  have f2 : w.cell? ⟨p, 2, none⟩ = some (.int .i64 K.c0) := h.cell 2
  have f3 : w.cell? ⟨p, 3, none⟩ = some (.int .i64 K.b0) := h.cell 3
  have g2 : w.frozen? ⟨p, 2, none⟩ = false := h.frozen 2
  have g3 : w.frozen? ⟨p, 3, none⟩ = false := h.frozen 3
  have e1 : wrap64 (K.c0 + 1) = K.c0 + 1 := wrap_in (by omega)
  have e2 : wrap64 (K.b0 + c) = K.b0 + c := wrap_in (by omega)
  go_enter Try.func13, Try.ntmps13
  go_wp2_with (first
    | (go_at_call 31; refine (check_any p K 0 c _ h hn).mono ?_; rw [ha]; rintro e w' ⟨rfl, rfl⟩)
    | (go_at_call 32; refine (plus_any _ _ _ _ _).mono ?_; rw [e1, e2]; rintro e w' ⟨rfl, rfl⟩)
    | (go_at_call 33; refine (fits_any _ _ _).mono ?_; rw [hz]; rintro e w' ⟨rfl, rfl⟩))
  refine wp_seen (fun W => Keep p w W ∧ At W p K ∧ W.heap[w.heap.size + 1 + 1 + 1]? = some (.cells #[.int .i64 (K.c0 + 1), .int .i64 (K.b0 + c)] 53 (0, 0))) ⟨by (repeat (first | assumption | exact Keep.refl _ _ | (refine Keep.alloc ?_ _) | (refine Keep.setCell ?_ _ _) | (refine Keep.drew ?_) | (refine Keep.drewN ?_ _))), by unfold At; (repeat (first | assumption | (refine heap_new ?_; first | rfl | (simp; done)) | (refine heap_alloc ?_ _) | (refine heap_drew ?_) | (refine heap_set ?_ _))), by (repeat (first | assumption | (refine heap_new ?_; first | rfl | (simp; done)) | (refine heap_alloc ?_ _) | (refine heap_drew ?_) | (refine heap_set ?_ _)))⟩ ?_
  rintro W ⟨hk, hA, hB⟩
  have f2 : W.cell? ⟨p, 2, none⟩ = some (.int .i64 K.c0) := hA.cell 2
  have f3 : W.cell? ⟨p, 3, none⟩ = some (.int .i64 K.b0) := hA.cell 3
  have g2 : W.frozen? ⟨p, 2, none⟩ = false := hA.frozen 2
  have g3 : W.frozen? ⟨p, 3, none⟩ = false := hA.frozen 3
  have l0 : W.cell? ⟨w.heap.size + 1 + 1 + 1, 0, none⟩ = some (.int .i64 (K.c0 + 1)) := cell_of hB 0
  have l1 : W.cell? ⟨w.heap.size + 1 + 1 + 1, 1, none⟩ = some (.int .i64 (K.b0 + c)) := cell_of hB 1
  go_region
  go_wp2
  go_ret
  exact ⟨rfl, by (repeat (first | assumption | exact Keep.refl _ _ | (refine Keep.alloc ?_ _) | (refine Keep.setCell ?_ _ _) | (refine Keep.drew ?_) | (refine Keep.drewN ?_ _))), by unfold At at *; exact heap_drew (heap_set (heap_set hA _) _)⟩

theorem add_full1 (p : Nat) (K : Bud) (c : Int) (w : World) (h : At w p K) (hI : K.Inv) (hf : fairB 1 c = true) (hz : fitsB (K.c1 + 1) (K.b1 + c) = false) :
    Calls Try.prog 13 #[.pointer (some ⟨p, 0, none⟩), .int .i64 1, .int .i64 c] w fun e w' => e = .returned (.int .i64 7) ∧ Below w.heap.size w w' := by
  have hn := hI.nz
  have ha := argOk hf
  obtain ⟨_, k0, k1⟩ := fairB_iff.1 hf
  have n0 := hI.c1; have n1 := hI.C1; have b0 := hI.b1; have b1 := hI.B1
  have lt := h.lt
  have f4 : w.cell? ⟨p, 4, none⟩ = some (.int .i64 K.c1) := h.cell 4
  have f5 : w.cell? ⟨p, 5, none⟩ = some (.int .i64 K.b1) := h.cell 5
  have g4 : w.frozen? ⟨p, 4, none⟩ = false := h.frozen 4
  have g5 : w.frozen? ⟨p, 5, none⟩ = false := h.frozen 5
  have e1 : wrap64 (K.c1 + 1) = K.c1 + 1 := wrap_in (by omega)
  have e2 : wrap64 (K.b1 + c) = K.b1 + c := wrap_in (by omega)
  go_enter Try.func13, Try.ntmps13
  go_wp2_with (first
    | (go_at_call 31; refine (check_any p K 1 c _ h hn).mono ?_; rw [ha]; rintro e w' ⟨rfl, rfl⟩)
    | (go_at_call 32; refine (plus_any _ _ _ _ _).mono ?_; rw [e1, e2]; rintro e w' ⟨rfl, rfl⟩)
    | (go_at_call 33; refine (fits_any _ _ _).mono ?_; rw [hz]; rintro e w' ⟨rfl, rfl⟩))
  go_ret
  exact ⟨rfl, by (repeat (first | exact Below.refl _ _ | (refine Below.alloc ?_ (by first | omega | (simp <;> omega)) _) | (refine Below.drew ?_) | (refine below_drewN ?_ _)))⟩
theorem add_ok1 (p : Nat) (K : Bud) (c : Int) (w : World) (h : At w p K) (hI : K.Inv) (hf : fairB 1 c = true) (hz : fitsB (K.c1 + 1) (K.b1 + c) = true) :
    Calls Try.prog 13 #[.pointer (some ⟨p, 0, none⟩), .int .i64 1, .int .i64 c] w fun e w' => e = .returned (.int .i64 0) ∧ Keep p w w' ∧ At w' p (K.put 1 (K.c1 + 1) (K.b1 + c)) := by
  have hn := hI.nz
  have ha := argOk hf
  obtain ⟨_, k0, k1⟩ := fairB_iff.1 hf
  have n0 := hI.c1; have n1 := hI.C1; have b0 := hI.b1; have b1 := hI.B1
  have lt := h.lt
  have f4 : w.cell? ⟨p, 4, none⟩ = some (.int .i64 K.c1) := h.cell 4
  have f5 : w.cell? ⟨p, 5, none⟩ = some (.int .i64 K.b1) := h.cell 5
  have g4 : w.frozen? ⟨p, 4, none⟩ = false := h.frozen 4
  have g5 : w.frozen? ⟨p, 5, none⟩ = false := h.frozen 5
  have e1 : wrap64 (K.c1 + 1) = K.c1 + 1 := wrap_in (by omega)
  have e2 : wrap64 (K.b1 + c) = K.b1 + c := wrap_in (by omega)
  go_enter Try.func13, Try.ntmps13
  go_wp2_with (first
    | (go_at_call 31; refine (check_any p K 1 c _ h hn).mono ?_; rw [ha]; rintro e w' ⟨rfl, rfl⟩)
    | (go_at_call 32; refine (plus_any _ _ _ _ _).mono ?_; rw [e1, e2]; rintro e w' ⟨rfl, rfl⟩)
    | (go_at_call 33; refine (fits_any _ _ _).mono ?_; rw [hz]; rintro e w' ⟨rfl, rfl⟩))
  refine wp_seen (fun W => Keep p w W ∧ At W p K ∧ W.heap[w.heap.size + 1 + 1 + 1]? = some (.cells #[.int .i64 (K.c1 + 1), .int .i64 (K.b1 + c)] 53 (0, 0))) ⟨by (repeat (first | assumption | exact Keep.refl _ _ | (refine Keep.alloc ?_ _) | (refine Keep.setCell ?_ _ _) | (refine Keep.drew ?_) | (refine Keep.drewN ?_ _))), by unfold At; (repeat (first | assumption | (refine heap_new ?_; first | rfl | (simp; done)) | (refine heap_alloc ?_ _) | (refine heap_drew ?_) | (refine heap_set ?_ _))), by (repeat (first | assumption | (refine heap_new ?_; first | rfl | (simp; done)) | (refine heap_alloc ?_ _) | (refine heap_drew ?_) | (refine heap_set ?_ _)))⟩ ?_
  rintro W ⟨hk, hA, hB⟩
  have f4 : W.cell? ⟨p, 4, none⟩ = some (.int .i64 K.c1) := hA.cell 4
  have f5 : W.cell? ⟨p, 5, none⟩ = some (.int .i64 K.b1) := hA.cell 5
  have g4 : W.frozen? ⟨p, 4, none⟩ = false := hA.frozen 4
  have g5 : W.frozen? ⟨p, 5, none⟩ = false := hA.frozen 5
  have l0 : W.cell? ⟨w.heap.size + 1 + 1 + 1, 0, none⟩ = some (.int .i64 (K.c1 + 1)) := cell_of hB 0
  have l1 : W.cell? ⟨w.heap.size + 1 + 1 + 1, 1, none⟩ = some (.int .i64 (K.b1 + c)) := cell_of hB 1
  go_region
  go_wp2
  go_ret
  exact ⟨rfl, by (repeat (first | assumption | exact Keep.refl _ _ | (refine Keep.alloc ?_ _) | (refine Keep.setCell ?_ _ _) | (refine Keep.drew ?_) | (refine Keep.drewN ?_ _))), by unfold At at *; exact heap_drew (heap_set (heap_set hA _) _)⟩

end Go.Proofs.Ytfoccffngdhlfaa
