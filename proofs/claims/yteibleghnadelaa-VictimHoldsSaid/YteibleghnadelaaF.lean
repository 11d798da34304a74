/-
  A map of slots to nothing; the contracts of order and of.
-/
import Derived.Test.YteibleghnadelaaE
import Derived.MapKept
namespace Go.Proofs.Yteibleghnadelaa
open Go.ChangeShapes Go.WideShapes Go.ChangeAt Go.RowKit
set_option linter.unusedVariables false

theorem set_keeps {w : World} {m : Nat} (o : Obj) : Keeps [m] w { w with heap := w.heap.setIfInBounds m o } :=
  ⟨rfl, rfl, rfl, by simp, fun k hk hm => by
    show (w.heap.setIfInBounds m o)[k]? = _
    rw [Array.getElem?_setIfInBounds_ne (by intro e; exact hm (by simp [e]))]⟩
/-- A map's block holds these keys, each with nothing. -/
def Mt (w : World) (m : Nat) (T : List Int) : Prop :=
  ∃ es clock, w.heap[m]? = some (.map es clock) ∧ MapKept.Stamped es clock ∧ es.toList.map (fun e => (e.key, e.val)) = T.map fun k => (Value.int .u32 k, Value.agg #[])
theorem Mt.lt {w : World} {m : Nat} {T : List Int} (h : Mt w m T) : m < w.heap.size := by obtain ⟨es, c, h, _⟩ := h; exact lt_of_heap h
theorem Mt.keep {w w' : World} {m : Nat} {T : List Int} {S : List Nat} (h : Mt w m T) (k : Keeps S w w') (hm : m ∉ S) : Mt w' m T := by obtain ⟨es, c, h, q⟩ := h; exact ⟨es, c, k.at h hm, q⟩
theorem Mt.new {w : World} : Mt (w.alloc (.map #[] 0)) w.heap.size [] := ⟨#[], 0, heap_new rfl, MapKept.stamped_empty 0, rfl⟩
theorem tkeys {es : Array MapEntry} {T : List Int} (h : es.toList.map (fun e => (e.key, e.val)) = T.map fun k => (Value.int .u32 k, Value.agg #[])) : ∀ x ∈ es.toList, ∃ k, k ∈ T ∧ x.key = .int .u32 k ∧ x.val = .agg #[] := by
  intro x hx
  have : (x.key, x.val) ∈ es.toList.map (fun e => (e.key, e.val)) := List.mem_map.2 ⟨x, hx, rfl⟩
  rw [h] at this
  obtain ⟨k, hk, e⟩ := List.mem_map.1 this
  obtain ⟨e1, e2⟩ : Value.int .u32 k = x.key ∧ Value.agg #[] = x.val := by simpa using e
  exact ⟨k, hk, e1.symm, e2.symm⟩
theorem tkeys2 {es : Array MapEntry} {T : List Int} (h : es.toList.map (fun e => (e.key, e.val)) = T.map fun k => (Value.int .u32 k, Value.agg #[])) {k : Int} (hk : k ∈ T) : ∃ x ∈ es.toList, x.key = .int .u32 k := by
  have : (Value.int .u32 k, Value.agg #[]) ∈ T.map fun k => (Value.int .u32 k, Value.agg #[]) := List.mem_map.2 ⟨k, hk, rfl⟩
  rw [← h] at this
  obtain ⟨x, hx, e⟩ := List.mem_map.1 this
  exact ⟨x, hx, by have := congrArg (·.1) e; exact this⟩
theorem tfind {es : Array MapEntry} {T : List Int} (h : es.toList.map (fun e => (e.key, e.val)) = T.map fun k => (Value.int .u32 k, Value.agg #[])) (k : Int) :
    (k ∉ T ∧ Instr.findNow (.int .u32) (.int .u32 k) es.toList 0 = some none ∧ ∀ x ∈ es.toList, x.key ≠ .int .u32 k) ∨ (k ∈ T ∧ ∃ j e, Instr.findNow (.int .u32) (.int .u32 k) es.toList 0 = some (some (j, .agg #[])) ∧ es[j]? = some e ∧ e.key = .int .u32 k ∧ e.val = .agg #[] ∧ T[j]? = some k) := by
  have hk : ∀ x ∈ es.toList, MapKept.IsKey (.int .u32) x.key := fun x hx => by
    obtain ⟨q, _, e, _⟩ := tkeys h x hx
    rw [e]; rfl
  rcases MapKept.findNow_spec (d := .int .u32) (k := .int .u32 k) rfl es.toList 0 hk with ⟨h1, h2⟩ | ⟨j, e, h1, h2, h3⟩
  · exact .inl ⟨fun hm => by obtain ⟨x, hx, e⟩ := tkeys2 h hm; exact h2 x hx e, h1, h2⟩
  · obtain ⟨q, hq, e1, e2⟩ := tkeys h e (List.mem_of_getElem? h2)
    rw [h3] at e1
    obtain rfl : k = q := by simpa using e1
    refine .inr ⟨hq, j, e, by rw [h1, e2, Nat.zero_add], by simpa using h2, h3, e2, ?_⟩
    have e9 : (es.toList.map fun e => (e.key, e.val))[j]? = (T.map fun k => (Value.int .u32 k, Value.agg #[]))[j]? := by rw [h]
    rw [List.getElem?_map, h2, List.getElem?_map] at e9
    cases hT : T[j]? with
    | none => rw [hT] at e9; simp at e9
    | some y =>
      rw [hT] at e9
      have : e.key = .int .u32 y := by have := congrArg (fun o : Option (Value × Value) => o.map (·.1)) e9; simpa using this
      rw [h3] at this
      obtain rfl : k = y := by simpa using this
      rfl
theorem Mt.put {w : World} {m : Nat} {T : List Int} (h : Mt w m T) (k : Int) :
    ∃ w', (Instr.mapUpdate 63 (.map (some m)) (.int .u32 k) (.agg #[])).run Try.prog w = .ok () w' ∧ Mt w' m (addT T k) ∧ Keeps [m] w w' := by
  obtain ⟨es, c, hh, hs, hv⟩ := h
  have hc := MapKept.run_checkKey (w := w) Try.underlying25 (k := .int .u32 k) rfl false 9999
  have hlt := lt_of_heap hh
  rcases tfind hv k with ⟨hk, h1, h2⟩ | ⟨hk, j, e, h1, h2, h3, h4, h5⟩
  · have hf := MapKept.run_findKey (w := w) Try.underlying25 h1
    refine ⟨_, ?_, ⟨es.push { key := .int .u32 k, val := .agg #[], born := c }, c + 1, ?_, MapKept.stamped_push hs h2, ?_⟩, set_keeps (.map (es.push { key := .int .u32 k, val := .agg #[], born := c }) (c + 1))⟩
    · simp [Instr.mapUpdate, run_underlying Try.underlying63, MapKept.run_getObj_map hh, hc, hf, Result.andThen, MapKept.run_setObj_map _ hh]
    · show (w.heap.setIfInBounds m _)[m]? = _
      simp [hlt]
    · unfold addT; rw [if_neg hk, List.map_append, ← hv]; simp
  · have hf := MapKept.run_findKey (w := w) Try.underlying25 h1
    have hst := MapKept.stamped_modify hs j (fun e => { e with key := .int .u32 k, val := .agg #[] }) (fun _ _ => rfl) (fun e' _ he' => by rw [h2] at he'; cases he'; exact h3.symm)
    refine ⟨_, ?_, ⟨_, c, ?_, hst, ?_⟩, set_keeps (.map (es.modify j fun e => { e with key := .int .u32 k, val := .agg #[] }) c)⟩
    · simp [Instr.mapUpdate, run_underlying Try.underlying63, MapKept.run_getObj_map hh, hc, hf, h2, h3, MapKept.run_keyThatStays (d := .int .u32) (k := .int .u32 k) rfl, Result.andThen, MapKept.run_setObj_map _ hh]
    · show (w.heap.setIfInBounds m _)[m]? = _
      simp [hlt]
    · unfold addT; rw [if_pos hk, ← hv]
      apply List.ext_getElem?
      intro i
      rw [List.getElem?_map, List.getElem?_map, Array.getElem?_toList, Array.getElem?_toList, Array.getElem?_modify]
      by_cases hij : j = i
      · subst hij; rw [if_pos rfl, h2]; simp [h3, h4]
      · rw [if_neg hij]
theorem Mt.len {w : World} {m : Nat} {T : List Int} (h : Mt w m T) (ty : TypeId) : (Builtin.len_ #[63] ty #[.map (some m)]).run Try.prog w = .ok (.int .i64 (T.length : Nat)) w := by
  obtain ⟨es, c, hh, hs, hv⟩ := h
  have : es.size = T.length := by have := congrArg List.length hv; simpa using this
  simp [Builtin.len_, run_underlying Try.underlying63, MapKept.run_getObj_map hh, Result.andThen, this, goInt]

theorem make_map63 (w : World) : (Instr.makeMap 63 none).run Try.prog w = .ok (.map (some w.heap.size)) (w.alloc (.map #[] 0)) := by
  simp [Instr.makeMap, Result.andThen, go_sem]
theorem delete_nil {p : Nat} {k : Int} {w : World} (hp : w.cell? ⟨p, 1, none⟩ = some (.int .u32 k)) (hlt : p < w.heap.size) :
    Calls Try.prog 32 #[.slice none 0 0, .func (.func 34) #[] #[.pointer (some ⟨p, 0, none⟩)]] w fun e w' => e = .returned (.slice none 0 0) ∧ Below w.heap.size w w' := by
  have I := index_is (c := 0) (Ents.nil (w := w) (s := none)) (n := 0) rfl (by omega) hp hlt
  go_enter Try.func32, Try.ntmps32
  go_wp2_with (first | (go_at_call 36; refine I.mono ?_; clear I; rintro e w1 ⟨⟨i, rfl, hi⟩, b1⟩; obtain rfl : i = -1 := by (rcases hi with ⟨q, _⟩ | ⟨j, x, _, q, _⟩; exact q; simp at q)))
  go_ret
  exact ⟨rfl, b1⟩
theorem order_is {s : Option Addr} {n c : Nat} {k : Int} {L : List (Int × Int)} {w : World} (hE : Ents w s L) (hL : L.length = n) (h1 : n ≤ 500) (h0 : n = 0 → s = none ∧ c = 0) :
    Calls Try.prog 25 #[.agg #[.slice s n c, .int .u32 k]] w fun e w' => ∃ v, e = .returned v ∧ w'.ownsRow w.heap.size 34 2 v (orderL k L).length (entsL (orderL k L)) ∧ Below w.heap.size w w' := by
  have bA : Below w.heap.size w (w.alloc (.cells #[.slice s n c, .int .u32 k] 53)) := (Below.refl _ _).alloc (Nat.le_refl _) _
  have hA : (w.alloc (.cells #[.slice s n c, .int .u32 k] 53)).heap[w.heap.size]? = some (.cells #[.slice s n c, .int .u32 k] 53 (0, 0)) := heap_new rfl
  have HA := Lib.hid hA
  have HB := Lib.hid bA
  have HE := Lib.hid (hE.below bA (Nat.le_refl _))
  clear hA bA
  have a0 : (w.alloc (.cells #[.slice s n c, .int .u32 k] 53)).cell? ⟨w.heap.size, 0, none⟩ = some (.slice s n c) := cell_of HA.out 0
  rcases Nat.eq_zero_or_pos n with q | q
  · obtain ⟨rfl, rfl⟩ := h0 q
    subst q
    obtain rfl : L = [] := List.eq_nil_of_length_eq_zero hL
    clear hE HE h0 hL
    go_enter Try.func25, Try.ntmps25
    go_wp2_with (first | (go_at_call 33; refine (clone_nil _).mono ?_; rintro e w1 ⟨rfl, rfl⟩; have D := delete_nil (p := w.heap.size) (k := k) (w := w.alloc (.cells #[.slice none 0 0, .int .u32 k] 53)) (cell_of HA.out 1) (lt_of_heap HA.out)) | (go_at_call 32; refine D.mono ?_; clear D; rintro e w2 ⟨rfl, b2⟩))
    go_ret
    exact ⟨_, rfl, World.ownsRow_nil _ _ _ _, HB.out.trans (b2.mono HB.out.size)⟩
  · have C := clone_is (c := c) HE.out hL q (by omega)
    clear hE HE h0
    go_enter Try.func25, Try.ntmps25
    go_wp2_with (first | (go_at_call 33; refine C.mono ?_; clear C; rintro e w1 ⟨g, c2, rfl, o1, b1⟩; have h2 := (b1.block _ (lt_of_heap HA.out)).trans HA.out; have hg : (w.alloc (.cells #[.slice s n c, .int .u32 k] 53)).heap.size ≤ g := own_block o1 g rfl; have D := delete_is (p := w.heap.size) (k := k) o1 hL (by omega) (cell_of h2 1) (lt_of_heap h2) (by have := lt_of_heap HA.out; omega)) | (go_at_call 32; refine D.mono ?_; clear D; rintro e w2 ⟨i, rfl, o2, k2⟩))
    have hlt := lt_of_heap HA.out
    go_ret
    have e9 : (orderL k L).length = i := by have := o2.1; rw [entsL_length] at this; omega
    rw [e9]
    exact ⟨_, rfl, own_mono o2 (by omega), HB.out.trans ((b1.mono HB.out.size).trans (k2.below (by simp; omega) (Nat.le_trans HB.out.size b1.size)))⟩
end Go.Proofs.Yteibleghnadelaa
