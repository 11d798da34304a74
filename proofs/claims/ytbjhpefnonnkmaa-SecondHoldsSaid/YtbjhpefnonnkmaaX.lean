/-
  A map of words to true: what lookup, store, delete, len and range do.
-/
import Derived.Test.YtbjhpefnonnkmaaU
import Derived.MapKept
import Derived.Maps.RangeRun
import Derived.Laws.IdiomRangeMap
namespace Go.Proofs.Ytbjhpefnonnkmaa
open Go.ChangeShapes Go.WideShapes Go.ChangeAt Go.RowKit
set_option linter.unusedVariables false

/-- A map's block holds these keys, each with true. -/
def Mt (w : World) (m : Nat) (T : List Int) : Prop :=
  ∃ es clock, w.heap[m]? = some (.map es clock) ∧ MapKept.Stamped es clock ∧ es.toList.map (fun e => (e.key, e.val)) = T.map fun k => (Value.int .u32 k, Value.bool true)
theorem Mt.lt {w : World} {m : Nat} {T : List Int} (h : Mt w m T) : m < w.heap.size := by obtain ⟨es, c, h, _⟩ := h; exact lt_of_heap h
theorem Mt.keep {w w' : World} {m : Nat} {T : List Int} {S : List Nat} (h : Mt w m T) (k : Keeps S w w') (hm : m ∉ S) : Mt w' m T := by obtain ⟨es, c, h, q⟩ := h; exact ⟨es, c, k.at h hm, q⟩
theorem Mt.new {w : World} : Mt (w.alloc (.map #[] 0)) w.heap.size [] := ⟨#[], 0, heap_new rfl, MapKept.stamped_empty 0, rfl⟩
theorem tkeys {es : Array MapEntry} {T : List Int} (h : es.toList.map (fun e => (e.key, e.val)) = T.map fun k => (Value.int .u32 k, Value.bool true)) : ∀ x ∈ es.toList, ∃ k, k ∈ T ∧ x.key = .int .u32 k ∧ x.val = .bool true := by
  intro x hx
  have : (x.key, x.val) ∈ es.toList.map (fun e => (e.key, e.val)) := List.mem_map.2 ⟨x, hx, rfl⟩
  rw [h] at this
  obtain ⟨k, hk, e⟩ := List.mem_map.1 this
  obtain ⟨e1, e2⟩ : Value.int .u32 k = x.key ∧ Value.bool true = x.val := by simpa using e
  exact ⟨k, hk, e1.symm, e2.symm⟩
theorem tkeys2 {es : Array MapEntry} {T : List Int} (h : es.toList.map (fun e => (e.key, e.val)) = T.map fun k => (Value.int .u32 k, Value.bool true)) {k : Int} (hk : k ∈ T) : ∃ x ∈ es.toList, x.key = .int .u32 k := by
  have : (Value.int .u32 k, Value.bool true) ∈ T.map fun k => (Value.int .u32 k, Value.bool true) := List.mem_map.2 ⟨k, hk, rfl⟩
  rw [← h] at this
  obtain ⟨x, hx, e⟩ := List.mem_map.1 this
  exact ⟨x, hx, by have := congrArg (·.1) e; exact this⟩
theorem tfind {es : Array MapEntry} {T : List Int} (h : es.toList.map (fun e => (e.key, e.val)) = T.map fun k => (Value.int .u32 k, Value.bool true)) (k : Int) :
    (k ∉ T ∧ Instr.findNow (.int .u32) (.int .u32 k) es.toList 0 = some none ∧ ∀ x ∈ es.toList, x.key ≠ .int .u32 k) ∨ (k ∈ T ∧ ∃ j e, Instr.findNow (.int .u32) (.int .u32 k) es.toList 0 = some (some (j, .bool true)) ∧ es[j]? = some e ∧ e.key = .int .u32 k ∧ e.val = .bool true ∧ T[j]? = some k) := by
  have hk : ∀ x ∈ es.toList, MapKept.IsKey (.int .u32) x.key := fun x hx => by
    obtain ⟨q, _, e, _⟩ := tkeys h x hx
    rw [e]; rfl
  rcases MapKept.findNow_spec (d := .int .u32) (k := .int .u32 k) rfl es.toList 0 hk with ⟨h1, h2⟩ | ⟨j, e, h1, h2, h3⟩
  · exact .inl ⟨fun hm => by obtain ⟨x, hx, e⟩ := tkeys2 h hm; exact h2 x hx e, h1, h2⟩
  · obtain ⟨q, hq, e1, e2⟩ := tkeys h e (List.mem_of_getElem? h2)
    rw [h3] at e1
    obtain rfl : k = q := by simpa using e1
    refine .inr ⟨hq, j, e, by rw [h1, e2, Nat.zero_add], by simpa using h2, h3, e2, ?_⟩
    have e9 : (es.toList.map fun e => (e.key, e.val))[j]? = (T.map fun k => (Value.int .u32 k, Value.bool true))[j]? := by rw [h]
    rw [List.getElem?_map, h2, List.getElem?_map] at e9
    cases hT : T[j]? with
    | none => rw [hT] at e9; simp at e9
    | some y =>
      rw [hT] at e9
      have : e.key = .int .u32 y := by have := congrArg (fun o : Option (Value × Value) => o.map (·.1)) e9; simpa using this
      rw [h3] at this
      obtain rfl : k = y := by simpa using this
      rfl
theorem Mt.look {w : World} {m : Nat} {T : List Int} (h : Mt w m T) (k : Int) :
    (Instr.lookup 28 (.map (some m)) (.int .u32 k) false).run Try.prog w = .ok (.bool (decide (k ∈ T))) w := by
  obtain ⟨es, c, hh, hs, hv⟩ := h
  have hc := MapKept.run_checkKey (w := w) Try.underlying29 (k := .int .u32 k) rfl es.isEmpty 9999
  rcases tfind hv k with ⟨hk, h1, h2⟩ | ⟨hk, j, e, h1, h2, h3, h4, h5⟩
  · have hf := MapKept.run_findKey (w := w) Try.underlying29 h1
    rw [decide_eq_false hk]
    simp [Instr.lookup, run_underlying Try.underlying28, MapKept.run_getObj_map hh, hc, hf, Result.andThen]
  · have hf := MapKept.run_findKey (w := w) Try.underlying29 h1
    rw [decide_eq_true hk]
    simp [Instr.lookup, run_underlying Try.underlying28, MapKept.run_getObj_map hh, hc, hf, Result.andThen]
def addT (T : List Int) (k : Int) : List Int := if k ∈ T then T else T ++ [k]
theorem Mt.put {w : World} {m : Nat} {T : List Int} (h : Mt w m T) (k : Int) :
    ∃ w', (Instr.mapUpdate 28 (.map (some m)) (.int .u32 k) (.bool true)).run Try.prog w = .ok () w' ∧ Mt w' m (addT T k) ∧ Keeps [m] w w' := by
  obtain ⟨es, c, hh, hs, hv⟩ := h
  have hc := MapKept.run_checkKey (w := w) Try.underlying29 (k := .int .u32 k) rfl false 9999
  have hlt := lt_of_heap hh
  rcases tfind hv k with ⟨hk, h1, h2⟩ | ⟨hk, j, e, h1, h2, h3, h4, h5⟩
  · have hf := MapKept.run_findKey (w := w) Try.underlying29 h1
    refine ⟨_, ?_, ⟨es.push { key := .int .u32 k, val := .bool true, born := c }, c + 1, ?_, MapKept.stamped_push hs h2, ?_⟩, set_keeps (.map (es.push { key := .int .u32 k, val := .bool true, born := c }) (c + 1))⟩
    · simp [Instr.mapUpdate, run_underlying Try.underlying28, MapKept.run_getObj_map hh, hc, hf, Result.andThen, MapKept.run_setObj_map _ hh]
    · show (w.heap.setIfInBounds m _)[m]? = _
      simp [hlt]
    · unfold addT; rw [if_neg hk, List.map_append, ← hv]; simp
  · have hf := MapKept.run_findKey (w := w) Try.underlying29 h1
    have hst := MapKept.stamped_modify hs j (fun e => { e with key := .int .u32 k, val := .bool true }) (fun _ _ => rfl) (fun e' _ he' => by rw [h2] at he'; cases he'; exact h3.symm)
    refine ⟨_, ?_, ⟨_, c, ?_, hst, ?_⟩, set_keeps (.map (es.modify j fun e => { e with key := .int .u32 k, val := .bool true }) c)⟩
    · simp [Instr.mapUpdate, run_underlying Try.underlying28, MapKept.run_getObj_map hh, hc, hf, h2, h3, MapKept.run_keyThatStays (d := .int .u32) (k := .int .u32 k) rfl, Result.andThen, MapKept.run_setObj_map _ hh]
    · show (w.heap.setIfInBounds m _)[m]? = _
      simp [hlt]
    · unfold addT; rw [if_pos hk, ← hv]
      apply List.ext_getElem?
      intro i
      rw [List.getElem?_map, List.getElem?_map, Array.getElem?_toList, Array.getElem?_toList, Array.getElem?_modify]
      by_cases hij : j = i
      · subst hij; rw [if_pos rfl, h2]; simp [h3, h4]
      · rw [if_neg hij]
theorem Mt.del {w : World} {m : Nat} {T : List Int} (h : Mt w m T) (k : Int) :
    ∃ w' T', (∀ ty, (Builtin.delete_ #[28, 29] ty #[.map (some m), .int .u32 k]).run Try.prog w = .ok (.tuple #[]) w') ∧ Mt w' m T' ∧ Keeps [m] w w' ∧ (k ∉ T → T' = T) ∧ (k ∈ T → (k :: T').Perm T) := by
  obtain ⟨es, c, hh, hs, hv⟩ := h
  have hc := MapKept.run_checkKey (w := w) Try.underlying29 (k := .int .u32 k) rfl es.isEmpty 9999
  have hlt := lt_of_heap hh
  rcases tfind hv k with ⟨hk, h1, h2⟩ | ⟨hk, j, e, h1, h2, h3, h4, h5⟩
  · have hf := MapKept.run_findKey (w := w) Try.underlying29 h1
    refine ⟨_, T, fun ty => ?_, ⟨es, c, ?_, hs, hv⟩, set_keeps (.map es c), fun _ => rfl, fun q => absurd q hk⟩
    · simp [Builtin.delete_, run_underlying Try.underlying28, MapKept.run_getObj_map hh, hc, hf, Result.andThen, MapKept.run_setObj_map _ hh]
    · show (w.heap.setIfInBounds m _)[m]? = _
      simp [hlt]
  · have hf := MapKept.run_findKey (w := w) Try.underlying29 h1
    refine ⟨_, T.eraseIdx j, fun ty => ?_, ⟨es.eraseIdxIfInBounds j, c, ?_, MapKept.stamped_erase hs j, ?_⟩, set_keeps (.map (es.eraseIdxIfInBounds j) c), fun q => absurd hk q, fun _ => (perm_erase h5).symm⟩
    · simp [Builtin.delete_, run_underlying Try.underlying28, MapKept.run_getObj_map hh, hc, hf, Result.andThen, MapKept.run_setObj_map _ hh]
    · show (w.heap.setIfInBounds m _)[m]? = _
      simp [hlt]
    · rw [map_eraseIdx, ← hv, ← map_eraseIdx]
      congr 1
      unfold Array.eraseIdxIfInBounds
      split
      · rw [Array.toList_eraseIdx]
      · rename_i h9
        rw [List.eraseIdx_of_length_le (by simp; omega)]
theorem Mt.len {w : World} {m : Nat} {T : List Int} (h : Mt w m T) (ty : TypeId) : (Builtin.len_ #[28] ty #[.map (some m)]).run Try.prog w = .ok (.int .i64 (T.length : Nat)) w := by
  obtain ⟨es, c, hh, hs, hv⟩ := h
  have : es.size = T.length := by have := congrArg List.length hv; simpa using this
  simp [Builtin.len_, run_underlying Try.underlying28, MapKept.run_getObj_map hh, Result.andThen, this, goInt]
theorem make_map28 (w : World) : (Instr.makeMap 28 none).run Try.prog w = .ok (.map (some w.heap.size)) (w.alloc (.map #[] 0)) := by
  simp [Instr.makeMap, Result.andThen, go_sem]
/-- An iterator over the map: how many entries are left. -/
def It (w : World) (m r : Nat) (T : List Int) (left : Nat) : Prop :=
  ∃ es clock since seen c0, w.heap[m]? = some (.map es clock) ∧ MapKept.Stamped es clock ∧ es.toList.map (fun e => (e.key, e.val)) = (T.map fun k => (Value.int .u32 k, Value.bool true)) ∧ w.heap[r]? = some (.mapIter (some m) since seen c0) ∧ (∀ x ∈ es.toList, x.born < since) ∧ since ≤ c0 ∧ since ≤ clock ∧ (leftOf es seen).size = left
theorem It.mt {w : World} {m r : Nat} {T : List Int} {left : Nat} (h : It w m r T left) : Mt w m T := by
  obtain ⟨es, c, s, seen, c0, h1, h2, h3, _⟩ := h; exact ⟨es, c, h1, h2, h3⟩
theorem It.keep {w w' : World} {m r : Nat} {T : List Int} {left : Nat} {S : List Nat} (h : It w m r T left) (k : Keeps S w w') (hm : m ∉ S) (hr : r ∉ S) : It w' m r T left := by
  obtain ⟨es, c, s, seen, c0, h1, h2, h3, h4, h5⟩ := h; exact ⟨es, c, s, seen, c0, k.at h1 hm, h2, h3, k.at h4 hr, h5⟩
theorem Mt.range {w : World} {m : Nat} {T : List Int} (h : Mt w m T) : ∃ w' left, (Instr.range 28 (.map (some m))).run Try.prog w = .ok (.pointer (some ⟨w.heap.size, 0, none⟩)) w' ∧ Below w.heap.size w w' ∧ It w' m w.heap.size T left := by
  obtain ⟨es, c, hh, hs, hv⟩ := h
  exact ⟨_, _, run_range_map w 28 29 4 m es c Try.underlying28 hh, (Below.refl _ _).alloc (Nat.le_refl _) _, es, c, c, #[], c, heap_alloc hh _, hs, hv, heap_new rfl, ((MapKept.stamped_iff es c).1 hs).1, Nat.le_refl _, Nat.le_refl _, rfl⟩
/-- How many entries an iterator has left, from the memory. -/
def itLeft (w : World) (m r : Nat) : Nat := match w.heap[m]?, w.heap[r]? with | some (.map es _), some (.mapIter _ _ seen _) => (leftOf es seen).size | _, _ => 0
theorem It.left {w : World} {m r : Nat} {T : List Int} {left : Nat} (h : It w m r T left) : itLeft w m r = left := by
  obtain ⟨es, c, s, seen, c0, h1, h2, h3, h4, h5, h6, h8, h7⟩ := h
  unfold itLeft; rw [h1, h4]; exact h7
theorem It.next {w : World} {m r : Nat} {T : List Int} {left : Nat} (h : It w m r T left) (ty : TypeId) :
    (Instr.next (.pointer (some ⟨r, 0, none⟩)) false ty).run Try.prog w = .ok (.tuple #[.bool false]) w ∨
    ∃ k w' left', k ∈ T ∧ (Instr.next (.pointer (some ⟨r, 0, none⟩)) false ty).run Try.prog w = .ok (.tuple #[.bool true, .int .u32 k, .bool true]) w' ∧ Keeps [r] w w' ∧ It w' m r T left' ∧ left' < left ∧ (Instr.entry (.pointer (some ⟨r, 0, none⟩))).run Try.prog w' = .ok (.tuple #[.int .u32 k, .bool true]) w' := by
  obtain ⟨es, c, s, seen, c0, h1, h2, h3, h4, h5, h6, h8, h7⟩ := h
  have hne : m ≠ r := fun e => by rw [e, h4] at h1; cases h1
  rcases run_next_at (P := Try.prog) w ty r m s c0 seen es c h4 h1 h5 h6 with ⟨_, hr⟩ | ⟨e, he, w1, hw1, hr⟩
  · exact .inl hr
  · right
    have he2 : e ∈ es.toList := by unfold leftOf at he; simp at he ⊢; exact he.1
    obtain ⟨k, hk, e1, e2⟩ := tkeys h3 e he2
    rw [e1, e2] at hr
    have hlt := lt_of_heap h4
    have kp : Keeps [r] w (ChangeMaps.setBlock w1 r (.mapIter (some m) s (seen.push e.born) c)) := by
      rcases hw1 with rfl | rfl
      · exact set_keeps _
      · exact (Keeps.refl [r] _).drew.trans (set_keeps _) (fun i hi => .inl hi)
    have hr2 : (ChangeMaps.setBlock w1 r (.mapIter (some m) s (seen.push e.born) c)).heap[r]? = some (.mapIter (some m) s (seen.push e.born) c) := by
      rcases hw1 with rfl | rfl <;> simp [ChangeMaps.setBlock, hlt]
    have hm2 := kp.at h1 (by simpa using hne)
    refine ⟨k, _, _, hk, hr, kp, ⟨es, c, s, seen.push e.born, c, hm2, h2, h3, hr2, h5, h8, h8, rfl⟩, ?_, ?_⟩
    · rw [← h7]; exact left_shrinks es seen e he
    · have := run_entry_at (P := Try.prog) _ r m s seen es c e hr2 hm2 he2 ((MapKept.stamped_iff es c).1 h2).2.1
      rw [e1, e2] at this
      exact this
end Go.Proofs.Ytbjhpefnonnkmaa
