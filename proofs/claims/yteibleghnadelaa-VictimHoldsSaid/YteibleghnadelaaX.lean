/-
  Entries and slots that came in: what the walks are told of them.
-/
import Derived.Test.YteibleghnadelaaV
import Derived.Deep.Slices
namespace Go.Proofs.Yteibleghnadelaa
open Go.ChangeShapes Go.WideShapes Go.ChangeAt Go.RowKit
set_option linter.unusedVariables false

theorem lt_of_cell {w : World} {p : Addr} {v : Value} (h : w.cell? p = some v) : p.block < w.heap.size := by
  apply Decidable.byContradiction
  intro hn
  have hnone : w.heap[p.block]? = none := Array.getElem?_eq_none (Nat.le_of_not_lt hn)
  unfold World.cell? at h
  rw [hnone] at h
  cases h
theorem word_int {H : Type} {enc : TypeId × Value → H} {w : World} {base : Nat} {spare : Nat → Bool} {held : Bool} {n : Nat} {cs : List Value} {x : DataW H × List MemPlace}
    (h : DataW.trod enc Try.prog w base spare held n 34 cs = some x) : ∃ y z, cs = [.int .u32 y, .int .i64 z] := by
  obtain ⟨ys, m, hn, hx, hlen, hys, hf⟩ := DataW.trod_struct Try.underlying34 h
  have hlen2 : cs.length = 2 := hlen.trans (by kernel_rfl)
  obtain ⟨v0, v1, rfl⟩ : ∃ v0 v1, cs = [v0, v1] := by
    match cs, hlen2 with
    | [v0, v1], _ => exact ⟨v0, v1, rfl⟩
  have c3 : Try.prog.cellsOf 3 = 1 := by kernel_rfl
  have c25 : Try.prog.cellsOf 25 = 1 := by kernel_rfl
  have hys2 : ys.length = 2 := hys
  have g0 : DataW.trod enc Try.prog w base spare held m 25 (([v0, v1].drop 0).take (Try.prog.cellsOf 25)) = ys[0]? := hf 0 _ rfl
  rw [c25, List.getElem?_eq_getElem (by omega)] at g0
  have g1 : DataW.trod enc Try.prog w base spare held m 3 (([v0, v1].drop 1).take (Try.prog.cellsOf 3)) = ys[1]? := hf 1 _ rfl
  rw [c3, List.getElem?_eq_getElem (by omega)] at g1
  obtain ⟨y, hy, _⟩ := DataW.trod_int Try.underlying25 g0
  obtain ⟨z, hz, _⟩ := DataW.trod_int Try.underlying3 g1
  simp at hy hz
  exact ⟨y, z, by rw [hy, hz]⟩
theorem list_of {α : Type} (d : α) {len : Nat} {p : Nat → α → Prop} (h : ∀ i, i < len → ∃ q, p i q) : ∃ L : List α, L.length = len ∧ ∀ i x, L[i]? = some x → p i x := by
  have hc : ∃ f : Nat → α, ∀ i, i < len → p i (f i) := by
    classical
    refine ⟨fun i => if hi : i < len then Classical.choose (h i hi) else d, fun i hi => ?_⟩
    simp only [dif_pos hi]
    exact Classical.choose_spec (h i hi)
  obtain ⟨f, hf⟩ := hc
  refine ⟨(List.range len).map f, by simp, fun i x hx => ?_⟩
  rw [List.getElem?_map] at hx
  obtain ⟨j, hj, rfl⟩ := Option.map_eq_some_iff.1 hx
  obtain ⟨hi, rfl⟩ := List.getElem?_eq_some_iff.1 hj
  rw [List.getElem_range]
  exact hf i (by simpa using hi)
theorem open_ents {H : Type} {enc : TypeId × Value → H} {w : World} {base : Nat} {spare : Nat → Bool} {held : Bool} {fuel : Nat} {cs : List Value} {x : DataW H × List MemPlace}
    (h : DataW.trod enc Try.prog w base spare held fuel 22 cs = some x) : ∃ s len cap L, cs = [.slice s len cap] ∧ L.length = len ∧ Ents w s L := by
  rcases Go.Deep.open_slice Try.underlying22 h with ⟨hcs, _⟩ | ⟨a, l, c, m, n, D, Pl, hcs, hb, hl, hm, hmm, hx, hi⟩
  · exact ⟨none, 0, 0, [], hcs, rfl, Ents.nil⟩
  · have c34 : Try.prog.cellsOf 34 = 2 := by kernel_rfl
    have hlm : l ≤ m := by rw [hmm]; split <;> omega
    obtain ⟨b, off, spot⟩ := a
    have hcell : ∀ i, i < l → ∃ y z, w.cell? (((⟨b, off, spot⟩ : Addr).add (i * 2)).add 0) = some (.int .u32 y) ∧ w.cell? (((⟨b, off, spot⟩ : Addr).add (i * 2)).add 1) = some (.int .i64 z) := by
      intro i hil
      obtain ⟨cs', hc, ht⟩ := hi i (by omega)
      rw [c34] at hc
      obtain ⟨_, _, hat⟩ := World.cells?_some hc
      obtain ⟨y, z, rfl⟩ := word_int ht
      exact ⟨y, z, (hat 0 (by omega)).trans rfl, (hat 1 (by omega)).trans rfl⟩
    by_cases hpos : 0 < l
    · obtain ⟨y, z, hy, hz⟩ := hcell 0 hpos
      have hz' : w.cell? ⟨b, off, spot⟩ = some (.int .u32 y) := by simpa [Addr.add] using hy
      have hspot : spot = none := by simpa using World.cell?_spot hz'
      subst hspot
      obtain ⟨L, hL, hall⟩ := list_of (0, 0) (p := fun i (q : Int × Int) => w.cell? ⟨b, off + i * 2, none⟩ = some (.int .u32 q.1) ∧ w.cell? ⟨b, off + i * 2 + 1, none⟩ = some (.int .i64 q.2)) (len := l) (by
        intro i hil
        obtain ⟨y, z, hy, hz⟩ := hcell i hil
        rw [add_at, add_at, Nat.add_zero] at hy
        rw [add_at, add_at] at hz
        exact ⟨(y, z), hy, hz⟩)
      exact ⟨_, _, _, L, hcs, hL, fun _ => ⟨b, off, rfl, lt_of_cell hz', hall⟩⟩
    · obtain rfl : l = 0 := by omega
      exact ⟨_, _, _, [], hcs, rfl, Ents.nil⟩
theorem open_slots {H : Type} {enc : TypeId × Value → H} {w : World} {base : Nat} {spare : Nat → Bool} {held : Bool} {fuel : Nat} {cs : List Value} {x : DataW H × List MemPlace}
    (h : DataW.trod enc Try.prog w base spare held fuel 39 cs = some x) : ∃ s len cap L, cs = [.slice s len cap] ∧ L.length = len ∧ Slots w s L := by
  rcases Go.Deep.open_slice Try.underlying39 h with ⟨hcs, _⟩ | ⟨a, l, c, m, n, D, Pl, hcs, hb, hl, hm, hmm, hx, hi⟩
  · exact ⟨none, 0, 0, [], hcs, rfl, fun h => absurd h (by simp)⟩
  · have c25 : Try.prog.cellsOf 25 = 1 := by kernel_rfl
    have hlm : l ≤ m := by rw [hmm]; split <;> omega
    obtain ⟨b, off, spot⟩ := a
    have hcell : ∀ i, i < l → ∃ y, w.cell? (((⟨b, off, spot⟩ : Addr).add (i * 1)).add 0) = some (.int .u32 y) := by
      intro i hil
      obtain ⟨cs', hc, ht⟩ := hi i (by omega)
      rw [c25] at hc
      obtain ⟨hlen, _, hat⟩ := World.cells?_some hc
      obtain ⟨y, hy, _⟩ := DataW.trod_int Try.underlying25 ht
      subst hy
      exact ⟨y, (hat 0 (by omega)).trans rfl⟩
    by_cases hpos : 0 < l
    · obtain ⟨y, hy⟩ := hcell 0 hpos
      have hz' : w.cell? ⟨b, off, spot⟩ = some (.int .u32 y) := by simpa [Addr.add] using hy
      have hspot : spot = none := by simpa using World.cell?_spot hz'
      subst hspot
      obtain ⟨L, hL, hall⟩ := list_of (0 : Int) (p := fun i (q : Int) => w.cell? ⟨b, off + i, none⟩ = some (.int .u32 q)) (len := l) (by
        intro i hil
        obtain ⟨y, hy⟩ := hcell i hil
        rw [add_at, add_at, Nat.mul_one, Nat.add_zero] at hy
        exact ⟨y, hy⟩)
      exact ⟨_, _, _, L, hcs, hL, fun _ => ⟨b, off, rfl, lt_of_cell hz', hall⟩⟩
    · obtain rfl : l = 0 := by omega
      exact ⟨_, _, _, [], hcs, rfl, fun h => absurd h (by simp)⟩
theorem open_slots' {H : Type} {enc : TypeId × Value → H} {w : World} {base : Nat} {spare : Nat → Bool} {held : Bool} {fuel : Nat} {s : Option Addr} {len cap : Nat} {x : DataW H × List MemPlace}
    (h : DataW.trod enc Try.prog w base spare held fuel 39 (Value.slice s len cap).cells.toList = some x) : ∃ L, L.length = len ∧ Slots w s L := by
  obtain ⟨s', len', cap', L, h1, h2, h3⟩ := open_slots h
  simp [Value.cells] at h1
  obtain ⟨rfl, rfl, rfl⟩ := h1
  exact ⟨L, h2, h3⟩
/-- The entries of both segments. -/
theorem open_entries {H : Type} {enc : TypeId × Value → H} {w : World} {base b0 : Nat} {spare : Nat → Bool} {held : Bool} {fuel : Nat} {v : Value} {x : DataW H × List MemPlace}
    (hv : Value.okWide Try.prog w .any b0 24 v) (h : DataW.trod enc Try.prog w base spare held fuel 24 v.cells.toList = some x) :
    ∃ s1 n1 c1 s2 n2 c2 L1 L2, v = .agg #[.slice s1 n1 c1, .slice s2 n2 c2] ∧ L1.length = n1 ∧ L2.length = n2 ∧ Ents w s1 L1 ∧ Ents w s2 L2 := by
  obtain ⟨cs, rfl, hsz⟩ := okWide_struct Try.underlying24 hv
  have h2 : cs.size = 2 := hsz.trans (by kernel_rfl)
  obtain ⟨v0, v1, rfl⟩ : ∃ v0 v1, cs = #[v0, v1] := by
    obtain ⟨l⟩ := cs
    match l, h2 with
    | [v0, v1], _ => exact ⟨v0, v1, rfl⟩
  have h' : DataW.trod enc Try.prog w base spare held fuel 24 [v0, v1] = some x := by simpa [Value.cells] using h
  obtain ⟨ys, m, hn, hx, hlen, hys, hf⟩ := DataW.trod_struct Try.underlying24 h'
  have c22 : Try.prog.cellsOf 22 = 1 := by kernel_rfl
  have hys2 : ys.length = 2 := hys
  have g0 : DataW.trod enc Try.prog w base spare held m 22 (([v0, v1].drop 0).take (Try.prog.cellsOf 22)) = ys[0]? := hf 0 _ rfl
  rw [c22, List.getElem?_eq_getElem (by omega)] at g0
  have g1 : DataW.trod enc Try.prog w base spare held m 22 (([v0, v1].drop 1).take (Try.prog.cellsOf 22)) = ys[1]? := hf 1 _ rfl
  rw [c22, List.getElem?_eq_getElem (by omega)] at g1
  obtain ⟨s1, n1, c1, L1, e1, l1, E1⟩ := open_ents g0
  obtain ⟨s2, n2, c2, L2, e2, l2, E2⟩ := open_ents g1
  simp at e1 e2
  exact ⟨s1, n1, c1, s2, n2, c2, L1, L2, by rw [e1, e2], l1, l2, E1, E2⟩
theorem open_entriesT {H : Type} {enc : TypeId × Value → H} {w : World} {base b0 : Nat} {spare : Nat → Bool} {held : Bool} {v : Value} {d : DataW H} {pl : List MemPlace}
    (hv : Value.okWide Try.prog w .any b0 24 v) (h : DataW.Trod enc Try.prog w base spare held 24 v d pl) :
    ∃ s1 n1 c1 s2 n2 c2 L1 L2, v = .agg #[.slice s1 n1 c1, .slice s2 n2 c2] ∧ L1.length = n1 ∧ L2.length = n2 ∧ Ents w s1 L1 ∧ Ents w s2 L2 := by
  obtain ⟨fuel, hf⟩ := h
  exact open_entries hv hf
theorem open_slotsT {H : Type} {enc : TypeId × Value → H} {w : World} {base : Nat} {spare : Nat → Bool} {held : Bool} {s : Option Addr} {len cap : Nat} {d : DataW H} {pl : List MemPlace}
    (h : DataW.Trod enc Try.prog w base spare held 39 (Value.slice s len cap) d pl) : ∃ L, L.length = len ∧ Slots w s L := by
  obtain ⟨fuel, hf⟩ := h
  exact open_slots' hf
end Go.Proofs.Yteibleghnadelaa
