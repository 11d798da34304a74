/-
  Maps from strings to integers: what lookup and store do.
-/
import Derived.Test.YtffniljefbpoiaaU
import Derived.MapKept
namespace Go.Proofs.Ytffniljefbpoiaa
open Go.ChangeShapes Go.WideShapes Go.ChangeAt Go.RowKit
set_option linter.unusedVariables false

/-- A map's block holds a function (the default where there is no entry). -/
def Mp (w : World) (m : Nat) (V : ByteArray → Int) : Prop :=
  ∃ es clock, w.heap[m]? = some (.map es clock) ∧ MapKept.Stamped es clock ∧ (∀ x ∈ es.toList, ∃ k, x.key = .string k ∧ x.val = .int .i64 (V k)) ∧ ∀ k, (∀ x ∈ es.toList, x.key ≠ .string k) → V k = 0
theorem Mp.lt {w : World} {m : Nat} {V : ByteArray → Int} (h : Mp w m V) : m < w.heap.size := by obtain ⟨es, c, h, _⟩ := h; exact lt_of_heap h
theorem Mp.keep {w w' : World} {m : Nat} {V : ByteArray → Int} {S : List Nat} (h : Mp w m V) (k : Keeps S w w') (hm : m ∉ S) : Mp w' m V := by obtain ⟨es, c, h, q⟩ := h; exact ⟨es, c, k.at h hm, q⟩
theorem Mp.below {w w' : World} {m : Nat} {V : ByteArray → Int} (h : Mp w m V) (b : Below w.heap.size w w') : Mp w' m V := h.keep (Keeps.of_below (S := []) b) (by simp)
theorem Mp.new {w : World} : Mp (w.alloc (.map #[] 0)) w.heap.size (fun _ => 0) := ⟨#[], 0, heap_new rfl, MapKept.stamped_empty 0, by simp, fun _ _ => rfl⟩
theorem keys_of {es : Array MapEntry} {V : ByteArray → Int} (h : ∀ x ∈ es.toList, ∃ k, x.key = .string k ∧ x.val = .int .i64 (V k)) : ∀ x ∈ es.toList, MapKept.IsKey .string x.key := fun x hx => by
  obtain ⟨k, hk, _⟩ := h x hx
  rw [hk]; trivial
theorem zero3 (w : World) : (zeroValue 3).run Try.prog w = .ok (.int .i64 0) w := by
  have : (Try.prog.info? 3).map (fun i => i.zero) = some (some (.int .i64 0)) := by kernel_rfl
  obtain ⟨i, hi, hz⟩ := Option.map_eq_some_iff.1 this
  simp [zeroValue, typeInfo, hi, hz]
theorem Mp.look {w : World} {m : Nat} {V : ByteArray → Int} (h : Mp w m V) (k : ByteArray) :
    (Instr.lookup 66 (.map (some m)) (.string k) false).run Try.prog w = .ok (.int .i64 (V k)) w := by
  obtain ⟨es, c, hh, hs, hv, hz⟩ := h
  have hc := MapKept.run_checkKey (w := w) Try.underlying9 (k := .string k) trivial es.isEmpty 9999
  rcases MapKept.findNow_spec (d := .string) (k := .string k) trivial es.toList 0 (keys_of hv) with ⟨h1, h2⟩ | ⟨j, e, h1, h2, h3⟩
  · have hk := MapKept.run_findKey (w := w) Try.underlying9 h1
    rw [hz k h2]
    simp [Instr.lookup, run_underlying Try.underlying66, MapKept.run_getObj_map hh, hc, hk, Result.andThen]
  · have hk := MapKept.run_findKey (w := w) Try.underlying9 h1
    obtain ⟨k', e1, e2⟩ := hv e (List.mem_of_getElem? h2)
    rw [h3] at e1
    obtain rfl : k = k' := by simpa using e1
    simp [Instr.lookup, run_underlying Try.underlying66, MapKept.run_getObj_map hh, hc, hk, e2, Result.andThen]
def updV (V : ByteArray → Int) (k : ByteArray) (v : Int) : ByteArray → Int := fun q => if q = k then v else V q
theorem Mp.put {w : World} {m : Nat} {V : ByteArray → Int} (h : Mp w m V) (k : ByteArray) (v : Int) :
    ∃ w', (Instr.mapUpdate 66 (.map (some m)) (.string k) (.int .i64 v)).run Try.prog w = .ok () w' ∧ Mp w' m (updV V k v) ∧ Keeps [m] w w' := by
  obtain ⟨es, c, hh, hs, hv, hz⟩ := h
  have hc := MapKept.run_checkKey (w := w) Try.underlying9 (k := .string k) trivial false 9999
  have hlt := lt_of_heap hh
  rcases MapKept.findNow_spec (d := .string) (k := .string k) trivial es.toList 0 (keys_of hv) with ⟨h1, h2⟩ | ⟨j, e, h1, h2, h3⟩
  · have hk := MapKept.run_findKey (w := w) Try.underlying9 h1
    refine ⟨_, ?_, ⟨es.push { key := .string k, val := .int .i64 v, born := c }, c + 1, ?_, MapKept.stamped_push hs h2, ?_, ?_⟩, set_keeps (.map (es.push { key := .string k, val := .int .i64 v, born := c }) (c + 1))⟩
    · simp [Instr.mapUpdate, run_underlying Try.underlying66, MapKept.run_getObj_map hh, hc, hk, Result.andThen, MapKept.run_setObj_map _ hh]
    · show (w.heap.setIfInBounds m _)[m]? = _
      simp [hlt]
    · intro x hx
      simp only [Array.toList_push, List.mem_append, List.mem_singleton] at hx
      rcases hx with hx | rfl
      · obtain ⟨k', e1, e2⟩ := hv x hx
        refine ⟨k', e1, ?_⟩
        have hne : k' ≠ k := fun q => h2 x hx (by rw [e1, q])
        unfold updV; rw [if_neg hne]; exact e2
      · exact ⟨k, rfl, by unfold updV; rw [if_pos rfl]⟩
    · intro q hq
      have hqk : q ≠ k := fun e => hq { key := .string k, val := .int .i64 v, born := c } (by simp) (by rw [e])
      unfold updV; rw [if_neg hqk]
      exact hz q fun x hx => hq x (by simp; exact .inl (by simpa using hx))
  · have hk := MapKept.run_findKey (w := w) Try.underlying9 h1
    have hj : es[j]? = some e := by simpa using h2
    have hst := MapKept.stamped_modify hs j (fun e => { e with key := .string k, val := .int .i64 v }) (fun _ _ => rfl) (fun e' _ he' => by rw [hj] at he'; cases he'; exact h3.symm)
    have hmem : ∀ x ∈ (es.modify j fun e => { e with key := .string k, val := .int .i64 v }).toList, (x.key = .string k ∧ x.val = .int .i64 v) ∨ ∃ i, i ≠ j ∧ es[i]? = some x := by
      intro x hx
      obtain ⟨i, hi⟩ := List.getElem?_of_mem hx
      rw [Array.getElem?_toList, Array.getElem?_modify] at hi
      by_cases hij : j = i
      · subst hij
        rw [if_pos rfl, hj] at hi
        obtain rfl : _ = x := by simpa using hi
        exact .inl ⟨rfl, rfl⟩
      · rw [if_neg hij] at hi
        exact .inr ⟨i, Ne.symm hij, hi⟩
    refine ⟨_, ?_, ⟨_, c, ?_, hst, ?_, ?_⟩, set_keeps (.map (es.modify j fun e => { e with key := .string k, val := .int .i64 v }) c)⟩
    · simp [Instr.mapUpdate, run_underlying Try.underlying66, MapKept.run_getObj_map hh, hc, hk, hj, h3, MapKept.run_keyThatStays (d := .string) (k := .string k) trivial, Result.andThen, MapKept.run_setObj_map _ hh]
    · show (w.heap.setIfInBounds m _)[m]? = _
      simp [hlt]
    · intro x hx
      rcases hmem x hx with ⟨e1, e2⟩ | ⟨i, hij, hi⟩
      · exact ⟨k, e1, by unfold updV; rw [if_pos rfl]; exact e2⟩
      · obtain ⟨k', e1, e2⟩ := hv x (by rw [← Array.getElem?_toList] at hi; exact List.mem_of_getElem? hi)
        refine ⟨k', e1, ?_⟩
        have hne : k' ≠ k := fun q => by
          have hp := ((MapKept.stamped_iff es c).1 hs).2.2
          have a1 : es.toList[i]? = some x := by rw [Array.getElem?_toList]; exact hi
          have a2 : es.toList[j]? = some e := by rw [Array.getElem?_toList]; exact hj
          have hkk : x.key = e.key := by rw [e1, q, h3]
          obtain ⟨li, ei⟩ := List.getElem?_eq_some_iff.1 a1
          obtain ⟨lj, ej⟩ := List.getElem?_eq_some_iff.1 a2
          rw [List.pairwise_iff_getElem] at hp
          rcases Nat.lt_or_gt_of_ne hij with q | q
          · exact hp i j li lj q (by rw [ei, ej]; exact hkk)
          · exact hp j i lj li q (by rw [ei, ej]; exact hkk.symm)
        unfold updV; rw [if_neg hne]; exact e2
    · intro q hq
      have hqk : q ≠ k := fun e9 => by
        have : (es.modify j fun e => { e with key := .string k, val := .int .i64 v })[j]? = some { e with key := .string k, val := .int .i64 v } := by
          rw [Array.getElem?_modify, if_pos rfl, hj]; rfl
        exact hq _ (by rw [← Array.getElem?_toList] at this; exact List.mem_of_getElem? this) (by rw [e9])
      unfold updV; rw [if_neg hqk]
      refine hz q fun x hx he => ?_
      obtain ⟨i, hi⟩ := List.getElem?_of_mem hx
      rw [Array.getElem?_toList] at hi
      by_cases hij : j = i
      · subst hij
        rw [hj] at hi
        obtain rfl : e = x := by simpa using hi
        rw [h3] at he
        exact hqk (by simpa using he.symm)
      · have : (es.modify j fun e => { e with key := .string k, val := .int .i64 v })[i]? = some x := by
          rw [Array.getElem?_modify, if_neg hij]; exact hi
        exact hq x (by rw [← Array.getElem?_toList] at this; exact List.mem_of_getElem? this) he
theorem make_map (w : World) : (Instr.makeMap 66 none).run Try.prog w = .ok (.map (some w.heap.size)) (w.alloc (.map #[] 0)) := by
  simp [Instr.makeMap, Result.andThen, go_sem]
end Go.Proofs.Ytffniljefbpoiaa
