/-
  The contracts of the law's own and within.
-/
import Derived.Test.YteibleghnadelaaR
import Derived.Deep.RegionLaw
namespace Go.Proofs.Yteibleghnadelaa
open Go.ChangeShapes Go.WideShapes Go.ChangeAt Go.RowKit
set_option linter.unusedVariables false

/-- An append at a step of a region that draws its order. -/
theorem step_run {ops : Array Oper} {o : Oper} {a : Act} {w : World} {K : Act → World → Prop} {Q : Exit → Act → World → Prop} {E : Prop} (hg : o.guard = none) (s x : Operand) (t : TypeId) (hop : o.op = Op.call { callee := Callee.builtin Builtin.append, args := #[s, x], argTypes := #[t, t] }) {sv xv v : Value} {w' : World} (hs : a.eval s = sv) (hx : a.eval x = xv) (hr : (Builtin.append_ #[t, t] o.type #[sv, xv]).run Try.prog w = .ok v w') (hK : K (a.put o.dst v) w') :
    if Region.wanted o (yielded ops a.tmps) = true then Oper.wp Try.prog o a w K Q else E := by
  have hw : Region.wanted o (yielded ops a.tmps) = true := by simp [Region.wanted, hg]
  rw [if_pos hw]
  unfold Oper.wp
  simp [execOp, hop, resolve, invoke, builtin, hs, hx, hr, Result.andThen]
  exact hK
theorem step_nil {ops : Array Oper} {o : Oper} {a : Act} {W wB : World} {K : Act → World → Prop} {Q : Exit → Act → World → Prop} {E : Prop} {s : Option Addr} {m c : Nat} {M : List (Int × Int)} (hS : Below wB.heap.size wB W) (hE : Ents wB s M) (hm : M.length = m) (h1 : m ≤ 1000) (hg : o.guard = none) (x : Operand) (hop : o.op = Op.call { callee := Callee.builtin Builtin.append, args := #[.const (.slice none 0 0), x], argTypes := #[22, 22] }) (hx : a.eval x = .slice s m c)
    (hK : ∀ A c2 w', w'.ownsRow wB.heap.size 34 2 (.slice A m c2) m (entsL M) → Below W.heap.size W w' → Below wB.heap.size wB w' → K (a.put o.dst (.slice A m c2)) w') :
    if Region.wanted o (yielded ops a.tmps) = true then Oper.wp Try.prog o a W K Q else E := by
  obtain ⟨v, w', r, o2, g2, _⟩ := app_ents (c := c) (n := 0) (L := []) (B := wB.heap.size) (World.ownsRow_nil W wB.heap.size 34 2) hm (hE.below hS (Nat.le_refl _)) hS.size (by omega) o.type
  rw [Nat.zero_add] at o2
  obtain ⟨A, c2, rfl⟩ := own_shape o2
  have b2 := Below.grown (Below.refl W.heap.size W) g2 (by simp [Value.ownBlock]) (Nat.le_refl _)
  exact step_run hg _ _ 22 hop rfl hx r (hK A c2 w' o2 b2 (hS.trans (b2.mono hS.size)))
theorem own_other {w : World} {base : Nat} {e : TypeId} {size : Nat} {v : Value} {n : Nat} {xs : List Value} (h : w.ownsRow base e size v n xs) {p i : Nat} (hp : p < base) (u : Value) : (w.setCell ⟨p, i, none⟩ u).ownsRow base e size v n xs :=
  ⟨h.1, h.2.imp id fun ⟨g, c, cur, q1, q2, hh, q⟩ => ⟨g, c, cur, q1, q2, heap_other hh (by omega) u, q⟩⟩
theorem Below.setCell' {B : Nat} {a w : World} (h : Below B a w) {p i k : Nat} (h1 : B ≤ p) (h2 : B ≤ p) {u v : Value} : Below B a ((w.setCell ⟨p, i, none⟩ u).setCell ⟨p, k, none⟩ v) :=
  ⟨h.os, h.tape, h.output, by rw [size_set, size_set]; exact h.size, fun j hj => (Below.heap_setCell _ _ v j (by simp; omega)).trans ((Below.heap_setCell _ _ u j (by simp; omega)).trans (h.block j hj))⟩
set_option maxHeartbeats 4000000 in
theorem own_is {s1 s2 : Option Addr} {n1 c1 n2 c2 : Nat} {L1 L2 : List (Int × Int)} {w : World} (hE1 : Ents w s1 L1) (hE2 : Ents w s2 L2) (h1 : L1.length = n1) (h2 : L2.length = n2) (h3 : n1 + n2 ≤ 500) :
    Calls Try.prog 9 #[.agg #[.slice s1 n1 c1, .slice s2 n2 c2]] w fun e w' => ∃ A1 d1 A2 d2, e = .returned (.agg #[.slice A1 n1 d1, .slice A2 n2 d2]) ∧ Ents w' A1 L1 ∧ Ents w' A2 L2 ∧ Below w.heap.size w w' := by
  go_enter Try.func9, Try.ntmps9
  go_upto_region 1 with fail
  refine wp_seen (fun W => Below w.heap.size w W ∧ W.heap.size = w.heap.size + 2 ∧ W.heap[w.heap.size]? = some (.cells #[.slice s1 n1 c1, .slice s2 n2 c2] 24 (0, 0)) ∧ W.heap[w.heap.size + 1]? = some (.cells #[.slice none 0 0, .slice none 0 0] 24 (0, 0))) ⟨((Below.refl _ _).alloc (Nat.le_refl _) _).alloc (by simp) _, by simp, heap_alloc (heap_new rfl) _, heap_new (by simp)⟩ ?_
  rintro W ⟨bW, hz, k1, k2⟩
  generalize hN : w.heap.size = N at *
  have HN := Lib.hid hN
  clear hN
  have e1 := hE1.below bW (by rw [HN.out]; exact Nat.le_refl _)
  have e2 := hE2.below bW (by rw [HN.out]; exact Nat.le_refl _)
  have m1 : W.cell? ⟨N, 0, none⟩ = some (.slice s1 n1 c1) := cell_of k1 0
  have m2 : W.cell? ⟨N, 1, none⟩ = some (.slice s2 n2 c2) := cell_of k1 1
  clear hE1 hE2
  go_region_law (first
    | (refine step_nil (wB := W) (by first | assumption | exact (Below.refl _ _).drew) e1 h1 (by omega) rfl (.tmp 4) rfl rfl ?_; intro A1 d1 wx o1 bx bz; have k1x := (bz.block N (by omega)).trans k1; have k2x := (bz.block (N + 1) (by omega)).trans k2; have m1x : wx.cell? ⟨N, 0, none⟩ = some (.slice s1 n1 c1) := cell_of k1x 0; have m2x : wx.cell? ⟨N, 1, none⟩ = some (.slice s2 n2 c2) := cell_of k1x 1; have m3x : wx.cell? ⟨N + 1, 0, none⟩ = some (.slice none 0 0) := cell_of k2x 0; have m4x : wx.cell? ⟨N + 1, 1, none⟩ = some (.slice none 0 0) := cell_of k2x 1; have m5x : wx.frozen? ⟨N + 1, 0, none⟩ = false := frozen_of k2x 0; have m6x : wx.frozen? ⟨N + 1, 1, none⟩ = false := frozen_of k2x 1)
    | (refine step_nil (wB := W) (by first | assumption | exact (Below.refl _ _).drew) e2 h2 (by omega) rfl (.tmp 7) rfl rfl ?_; intro A2 d2 wy o2 by1 by2; have k1y := (by2.block N (by omega)).trans k1; have k2y := (by2.block (N + 1) (by omega)).trans k2; have m1y : wy.cell? ⟨N, 0, none⟩ = some (.slice s1 n1 c1) := cell_of k1y 0; have m2y : wy.cell? ⟨N, 1, none⟩ = some (.slice s2 n2 c2) := cell_of k1y 1; have m3y : wy.cell? ⟨N + 1, 0, none⟩ = some (.slice none 0 0) := cell_of k2y 0; have m4y : wy.cell? ⟨N + 1, 1, none⟩ = some (.slice none 0 0) := cell_of k2y 1; have m5y : wy.frozen? ⟨N + 1, 0, none⟩ = false := frozen_of k2y 0; have m6y : wy.frozen? ⟨N + 1, 1, none⟩ = false := frozen_of k2y 1))
  all_goals go_wp2_with fail
  all_goals first
    | (have p1 := own_below o1 by1 (Nat.le_refl _)
       refine post_seen (fun W9 => Below N w W9 ∧ W9.heap[N + 1]? = some (.cells #[.slice A1 n1 d1, .slice A2 n2 d2] 24 (0, 0)) ∧ Ents W9 A1 L1 ∧ Ents W9 A2 L2) ⟨Below.setCell' (bW.trans (by2.mono (by omega))) (by simp) (by simp), heap_set (heap_set k2y _) _, (Ents.of_owns (own_other (own_other p1 (by omega) _) (by omega) _)).2, (Ents.of_owns (own_other (own_other o2 (by omega) _) (by omega) _)).2⟩ ?_)
    | (have p2 := own_below o2 bx (Nat.le_refl _)
       refine post_seen (fun W9 => Below N w W9 ∧ W9.heap[N + 1]? = some (.cells #[.slice A1 n1 d1, .slice A2 n2 d2] 24 (0, 0)) ∧ Ents W9 A1 L1 ∧ Ents W9 A2 L2) ⟨Below.setCell' (bW.trans (bz.mono (by omega))) (by simp) (by simp), heap_set (heap_set k2x _) _, (Ents.of_owns (own_other (own_other o1 (by omega) _) (by omega) _)).2, (Ents.of_owns (own_other (own_other p2 (by omega) _) (by omega) _)).2⟩ ?_)
  all_goals rintro W9 ⟨b9, h0, f1, f2⟩
  all_goals have t0 : W9.cell? ⟨N + 1, 0, none⟩ = some (.slice A1 n1 d1) := cell_of h0 0
  all_goals have t1 : W9.cell? ⟨N + 1, 1, none⟩ = some (.slice A2 n2 d2) := cell_of h0 1
  all_goals exact bodyPost_ret (v := .agg #[.slice A1 n1 d1, .slice A2 n2 d2]) (by simp [results, Try.results9, go_sem, t0, t1]) rfl ⟨_, _, _, _, rfl, f1, f2, by rw [HN.out]; exact b9⟩
end Go.Proofs.Yteibleghnadelaa
