/-
  A slice of calls (structs of an integer and a word) that came in: what the walk is told of it.
-/
import Derived.Test.YtbjhpefnonnkmaaT
import Derived.Deep.Slices
namespace Go.Proofs.Ytbjhpefnonnkmaa
open Go.ChangeShapes Go.WideShapes Go.ChangeAt Go.RowKit
set_option linter.unusedVariables false

theorem lt_of_cell {w : World} {p : Addr} {v : Value} (h : w.cell? p = some v) : p.block < w.heap.size := by
  apply Decidable.byContradiction
  intro hn
  have hnone : w.heap[p.block]? = none := Array.getElem?_eq_none (Nat.le_of_not_lt hn)
  unfold World.cell? at h
  rw [hnone] at h
  cases h
theorem int_word {H : Type} {enc : TypeId × Value → H} {w : World} {base : Nat} {spare : Nat → Bool} {held : Bool} {n : Nat} {cs : List Value} {x : DataW H × List MemPlace}
    (h : DataW.trod enc Try.prog w base spare held n 31 cs = some x) : ∃ y z, cs = [.int .i64 y, .int .u32 z] := by
  obtain ⟨ys, m, hn, hx, hlen, hys, hf⟩ := DataW.trod_struct Try.underlying31 h
  have hlen2 : cs.length = 2 := hlen.trans (by kernel_rfl)
  obtain ⟨v0, v1, rfl⟩ : ∃ v0 v1, cs = [v0, v1] := by
    match cs, hlen2 with
    | [v0, v1], _ => exact ⟨v0, v1, rfl⟩
  have c3 : Try.prog.cellsOf 3 = 1 := by kernel_rfl
  have c29 : Try.prog.cellsOf 29 = 1 := by kernel_rfl
  have hys2 : ys.length = 2 := hys
  have g0 : DataW.trod enc Try.prog w base spare held m 3 (([v0, v1].drop 0).take (Try.prog.cellsOf 3)) = ys[0]? := hf 0 _ rfl
  rw [c3, List.getElem?_eq_getElem (by omega)] at g0
  have g1 : DataW.trod enc Try.prog w base spare held m 29 (([v0, v1].drop 1).take (Try.prog.cellsOf 29)) = ys[1]? := hf 1 _ rfl
  rw [c29, List.getElem?_eq_getElem (by omega)] at g1
  obtain ⟨y, hy, _⟩ := DataW.trod_int Try.underlying3 g0
  obtain ⟨z, hz, _⟩ := DataW.trod_int Try.underlying29 g1
  simp at hy hz
  exact ⟨y, z, by rw [hy, hz]⟩
theorem open_acts {H : Type} {enc : TypeId × Value → H} {w : World} {base : Nat} {spare : Nat → Bool} {held : Bool} {fuel : Nat} {s : Option Addr} {len cap : Nat} {x : DataW H × List MemPlace}
    (h : DataW.trod enc Try.prog w base spare held fuel 22 [.slice s len cap] = some x) : ∃ f g, len ≤ maxLen ∧ IsActs w [] s len f g := by
  rcases Go.Deep.open_slice Try.underlying22 h with ⟨hcs, _⟩ | ⟨a, l, c, m, n, D, Pl, hcs, hb, hl, hm, hmm, hx, hi⟩
  · simp at hcs
    obtain ⟨rfl, rfl, rfl⟩ := hcs
    exact ⟨fun _ => 0, fun _ => 0, by unfold maxLen; omega, fun h => absurd h (by omega)⟩
  · simp at hcs
    obtain ⟨rfl, rfl, rfl⟩ := hcs
    have c31 : Try.prog.cellsOf 31 = 2 := by kernel_rfl
    have hlm : len ≤ m := by rw [hmm]; split <;> omega
    obtain ⟨b, off, spot⟩ := a
    have hcell : ∀ i, i < len → ∃ y z, w.cell? (((⟨b, off, spot⟩ : Addr).add (i * 2)).add 0) = some (.int .i64 y) ∧ w.cell? (((⟨b, off, spot⟩ : Addr).add (i * 2)).add 1) = some (.int .u32 z) := by
      intro i hil
      obtain ⟨cs', hc, ht⟩ := hi i (by omega)
      rw [c31] at hc
      obtain ⟨_, _, hat⟩ := World.cells?_some hc
      obtain ⟨y, z, rfl⟩ := int_word ht
      exact ⟨y, z, (hat 0 (by omega)).trans rfl, (hat 1 (by omega)).trans rfl⟩
    by_cases hpos : 0 < len
    · obtain ⟨y, z, hy, hz⟩ := hcell 0 hpos
      have hz' : w.cell? ⟨b, off, spot⟩ = some (.int .i64 y) := by simpa [Addr.add] using hy
      have hspot : spot = none := by simpa using World.cell?_spot hz'
      subst hspot
      have hall : ∀ i, i < len → ∃ q : Int × Int, w.cell? ⟨b, off + i * 2, none⟩ = some (.int .i64 q.1) ∧ w.cell? ⟨b, off + i * 2 + 1, none⟩ = some (.int .u32 q.2) := by
        intro i hil
        obtain ⟨y, z, hy, hz⟩ := hcell i hil
        have e0 : ((⟨b, off, none⟩ : Addr).add (i * 2)).add 0 = ⟨b, off + i * 2, none⟩ := by
          by_cases h1 : i * 2 = 0 <;> simp [Addr.add, h1] <;> omega
        have e1 : ((⟨b, off, none⟩ : Addr).add (i * 2)).add 1 = ⟨b, off + i * 2 + 1, none⟩ := by
          by_cases h1 : i * 2 = 0 <;> simp [Addr.add, h1] <;> omega
        exact ⟨(y, z), by rw [← e0]; exact hy, by rw [← e1]; exact hz⟩
      refine ⟨fun i => if h : i < len then (hall i h).choose.1 else 0, fun i => if h : i < len then (hall i h).choose.2 else 0, by omega, fun _ => ⟨b, off, rfl, lt_of_cell hz', by simp, fun i hil => ?_⟩⟩
      show w.cell? _ = some (Value.int .i64 (if h : i < len then (hall i h).choose.1 else 0)) ∧ w.cell? _ = some (Value.int .u32 (if h : i < len then (hall i h).choose.2 else 0))
      rw [dif_pos hil, dif_pos hil]
      exact (hall i hil).choose_spec
    · exact ⟨fun _ => 0, fun _ => 0, by omega, fun h => absurd h hpos⟩
end Go.Proofs.Ytbjhpefnonnkmaa
