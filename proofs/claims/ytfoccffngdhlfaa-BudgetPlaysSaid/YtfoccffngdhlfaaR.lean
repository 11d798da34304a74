/-
  A slice of calls (structs of four integers) that came in: what the walk is told of it.
-/
import Derived.Test.YtfoccffngdhlfaaP
import Derived.Deep.Slices
namespace Go.Proofs.Ytfoccffngdhlfaa
open Go.ChangeShapes Go.WideShapes Go.ChangeAt Go.RowKit
set_option linter.unusedVariables false

theorem lt_of_cell {w : World} {p : Addr} {v : Value} (h : w.cell? p = some v) : p.block < w.heap.size := by
  apply Decidable.byContradiction
  intro hn
  have hnone : w.heap[p.block]? = none := Array.getElem?_eq_none (Nat.le_of_not_lt hn)
  unfold World.cell? at h
  rw [hnone] at h
  cases h

theorem four_ints {H : Type} {enc : TypeId × Value → H} {w : World} {base : Nat} {spare : Nat → Bool} {held : Bool} {n : Nat} {cs : List Value} {x : DataW H × List MemPlace}
    (h : DataW.trod enc Try.prog w base spare held n 37 cs = some x) (j : Nat) (hj : j < 4) : ∃ z, cs[j]? = some (.int .i64 z) := by
  obtain ⟨ys, m, hn, hx, hlen, hys, hf⟩ := DataW.trod_struct Try.underlying37 h
  have hlen4 : cs.length = 4 := hlen.trans (by kernel_rfl)
  obtain ⟨v0, v1, v2, v3, rfl⟩ : ∃ v0 v1 v2 v3, cs = [v0, v1, v2, v3] := by
    match cs, hlen4 with
    | [v0, v1, v2, v3], _ => exact ⟨v0, v1, v2, v3, rfl⟩
  have c3 : Try.prog.cellsOf 3 = 1 := by kernel_rfl
  have c31 : Try.prog.cellsOf 31 = 1 := by kernel_rfl
  have hys4 : ys.length = 4 := hys
  have key : ∀ (t : TypeId) (v : Value) (i : Nat) (hi : i < 4), Try.prog.underlying t = some (.int .i64) → DataW.trod enc Try.prog w base spare held m t [v] = ys[i]? → ∃ z, v = .int .i64 z := by
    intro t v i hi ht hq
    rw [List.getElem?_eq_getElem (by omega)] at hq
    obtain ⟨z, hz, _⟩ := DataW.trod_int ht hq
    simp at hz
    exact ⟨z, hz⟩
  have g0 : DataW.trod enc Try.prog w base spare held m 3 (([v0, v1, v2, v3].drop 0).take (Try.prog.cellsOf 3)) = ys[0]? := hf 0 _ rfl
  rw [c3] at g0
  have g1 : DataW.trod enc Try.prog w base spare held m 31 (([v0, v1, v2, v3].drop 1).take (Try.prog.cellsOf 31)) = ys[1]? := hf 1 _ rfl
  rw [c31] at g1
  have g2 : DataW.trod enc Try.prog w base spare held m 3 (([v0, v1, v2, v3].drop 2).take (Try.prog.cellsOf 3)) = ys[2]? := hf 2 _ rfl
  rw [c3] at g2
  have g3 : DataW.trod enc Try.prog w base spare held m 3 (([v0, v1, v2, v3].drop 3).take (Try.prog.cellsOf 3)) = ys[3]? := hf 3 _ rfl
  rw [c3] at g3
  obtain ⟨z0, rfl⟩ := key 3 v0 0 (by omega) Try.underlying3 g0
  obtain ⟨z1, rfl⟩ := key 31 v1 1 (by omega) Try.underlying31 g1
  obtain ⟨z2, rfl⟩ := key 3 v2 2 (by omega) Try.underlying3 g2
  obtain ⟨z3, rfl⟩ := key 3 v3 3 (by omega) Try.underlying3 g3
  match j, hj with
  | 0, _ => exact ⟨z0, rfl⟩
  | 1, _ => exact ⟨z1, rfl⟩
  | 2, _ => exact ⟨z2, rfl⟩
  | 3, _ => exact ⟨z3, rfl⟩

theorem open_acts {H : Type} {enc : TypeId × Value → H} {w : World} {base : Nat} {spare : Nat → Bool} {held : Bool} {fuel : Nat} {s : Option Addr} {len cap : Nat} {x : DataW H × List MemPlace}
    (h : DataW.trod enc Try.prog w base spare held fuel 34 [.slice s len cap] = some x) : ∃ f, len ≤ maxLen ∧ IsActs w s len f := by
  rcases Go.Deep.open_slice Try.underlying34 h with ⟨hcs, _⟩ | ⟨a, l, c, m, n, D, Pl, hcs, hb, hl, hm, hmm, hx, hi⟩
  · simp at hcs
    obtain ⟨rfl, rfl, rfl⟩ := hcs
    exact ⟨fun _ _ => 0, by unfold maxLen; omega, fun h => absurd h (by omega)⟩
  · simp at hcs
    obtain ⟨rfl, rfl, rfl⟩ := hcs
    have c37 : Try.prog.cellsOf 37 = 4 := by kernel_rfl
    have hlm : len ≤ m := by rw [hmm]; split <;> omega
    obtain ⟨b, off, spot⟩ := a
    have hcell : ∀ i, i < len → ∀ j, j < 4 → ∃ z, w.cell? (((⟨b, off, spot⟩ : Addr).add (i * 4)).add j) = some (.int .i64 z) := by
      intro i hil j hj
      obtain ⟨cs', hc, ht⟩ := hi i (by omega)
      rw [c37] at hc
      obtain ⟨_, _, hat⟩ := World.cells?_some hc
      obtain ⟨z, hz⟩ := four_ints ht j hj
      exact ⟨z, (hat j hj).trans hz⟩
    by_cases hpos : 0 < len
    · obtain ⟨z, hz⟩ := hcell 0 hpos 0 (by omega)
      have hz' : w.cell? ⟨b, off, spot⟩ = some (.int .i64 z) := by simpa [Addr.add] using hz
      have hspot : spot = none := by simpa using World.cell?_spot hz'
      subst hspot
      have hall : ∀ i, i < len → ∀ j, j < 4 → ∃ z, w.cell? ⟨b, off + (i * 4 + j), none⟩ = some (.int .i64 z) := by
        intro i hil j hj
        obtain ⟨z, hz⟩ := hcell i hil j hj
        have e : ((⟨b, off, none⟩ : Addr).add (i * 4)).add j = ⟨b, off + (i * 4 + j), none⟩ := by
          by_cases h1 : i * 4 = 0 <;> by_cases h2 : j = 0 <;> simp [Addr.add, h1, h2] <;> omega
        exact ⟨z, by rw [← e]; exact hz⟩
      refine ⟨fun i j => if h : i < len ∧ j < 4 then (hall i h.1 j h.2).choose else 0, by omega, fun _ => ⟨b, off, rfl, lt_of_cell hz', fun i hil j hj => ?_⟩⟩
      show w.cell? _ = some (Value.int .i64 (if h : i < len ∧ j < 4 then (hall i h.1 j h.2).choose else 0))
      rw [dif_pos ⟨hil, hj⟩]
      exact (hall i hil j hj).choose_spec
    · exact ⟨fun _ _ => 0, by omega, fun h => absurd h hpos⟩
end Go.Proofs.Ytfoccffngdhlfaa
