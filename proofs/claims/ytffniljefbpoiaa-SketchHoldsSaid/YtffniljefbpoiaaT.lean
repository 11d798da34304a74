/-
  The walk of SketchNone.
-/
import Derived.Test.YtffniljefbpoiaaS
namespace Go.Proofs.Ytffniljefbpoiaa
open Go.ChangeShapes Go.WideShapes Go.ChangeAt Go.RowKit
set_option linter.unusedVariables false

/-- A nil pointer, or one to a zero sketch. -/
def Nothing (w : World) (v : Option Addr) : Prop := v = none ∨ ∃ q, v = some ⟨q, 0, none⟩ ∧ w.heap[q]? = some (.cells #[.int .i64 0, .int .i64 0, .int .i64 0, .int .u64 0, .bool false, .slice none 0 0, .slice none 0 0, .slice none 0 0, .slice none 0 0] 54 (0, 0))
theorem Nothing.below {w w' : World} {v : Option Addr} (h : Nothing w v) (b : Below w.heap.size w w') : Nothing w' v :=
  h.imp id fun ⟨q, e, hq⟩ => ⟨q, e, (b.block _ (lt_of_heap hq)).trans hq⟩
theorem zero_no {w : World} {v : Option Addr} (h : Nothing w v) : Calls Try.prog 28 #[.pointer v] w fun e w' => e = .returned (.bool true) ∧ w = w' := by
  rcases h with rfl | ⟨q, rfl, hq⟩
  · exact zero_nil w
  · have c0 : w.cell? ⟨q, 0, none⟩ = some (.int .i64 0) := cell_of hq 0
    go_enter Try.func28, Try.ntmps28
    go_wp2
    go_ret
    exact ⟨rfl, rfl⟩
theorem add_no {w : World} {v : Option Addr} {key : ByteArray} (h : Nothing w v) : Calls Try.prog 12 #[.pointer v, .string key] w fun e w' => e = .returned (.tuple #[.bool false, .int .i64 1]) ∧ w = w' := by
  go_enter Try.func12, Try.ntmps12
  go_wp2_with (first | (go_at_call 28; refine (zero_no h).mono ?_; rintro e w' ⟨rfl, rfl⟩))
  go_ret2
  exact ⟨rfl, rfl⟩
theorem halve_no {w : World} {v : Option Addr} (h : Nothing w v) : Calls Try.prog 14 #[.pointer v] w fun e w' => e = .returned (.int .i64 1) ∧ w = w' := by
  go_enter Try.func14, Try.ntmps14
  go_wp2_with (first | (go_at_call 28; refine (zero_no h).mono ?_; rintro e w' ⟨rfl, rfl⟩))
  go_ret
  exact ⟨rfl, rfl⟩
theorem count_no {w : World} {v : Option Addr} {key : ByteArray} (h : Nothing w v) : Calls Try.prog 20 #[.pointer v, .string key] w fun e w' => e = .returned (.int .i64 0) ∧ w = w' := by
  go_enter Try.func20, Try.ntmps20
  go_wp2_with (first | (go_at_call 28; refine (zero_no h).mono ?_; rintro e w' ⟨rfl, rfl⟩))
  go_ret
  exact ⟨rfl, rfl⟩
theorem additions_no {w : World} {v : Option Addr} (h : Nothing w v) : Calls Try.prog 21 #[.pointer v] w fun e w' => e = .returned (.int .i64 0) ∧ w = w' := by
  go_enter Try.func21, Try.ntmps21
  go_wp2_with (first | (go_at_call 28; refine (zero_no h).mono ?_; rintro e w' ⟨rfl, rfl⟩))
  go_ret
  exact ⟨rfl, rfl⟩
theorem copy_no {w : World} {v : Option Addr} (h : Nothing w v) : Calls Try.prog 16 #[.pointer v] w fun e w' => e = .returned (.pointer none) ∧ w = w' := by
  go_enter Try.func16, Try.ntmps16
  go_wp2_with (first | (go_at_call 28; refine (zero_no h).mono ?_; rintro e w' ⟨rfl, rfl⟩))
  go_ret
  exact ⟨rfl, rfl⟩
theorem rown_no {w : World} {v : Option Addr} {r : Int} (h : Nothing w v) : Calls Try.prog 17 #[.pointer v, .int .i64 r] w fun e w' => e = .returned (.tuple #[.slice none 0 0, .int .i64 1]) ∧ w = w' := by
  go_enter Try.func17, Try.ntmps17
  go_wp2_with (first | (go_at_call 28; refine (zero_no h).mono ?_; rintro e w' ⟨rfl, rfl⟩))
  go_ret2
  exact ⟨rfl, rfl⟩

theorem places_no {w : World} {v : Option Addr} {key : ByteArray} (h : Nothing w v) : Calls Try.prog 19 #[.pointer v, .string key] w fun e w' => e = .returned (.tuple #[.agg #[.int .i64 0, .int .i64 0, .int .i64 0, .int .i64 0], .int .i64 1]) ∧ Below w.heap.size w w' := by
  have b0 : Below w.heap.size w (w.alloc (.cells #[.int .i64 0, .int .i64 0, .int .i64 0, .int .i64 0] 56)) := (Below.refl _ _).alloc (Nat.le_refl _) _
  have h0 := h.below b0
  have o0 : (w.alloc (.cells #[.int .i64 0, .int .i64 0, .int .i64 0, .int .i64 0] 56)).heap[w.heap.size]? = some (.cells #[.int .i64 0, .int .i64 0, .int .i64 0, .int .i64 0] 56 (0, 0)) := heap_new rfl
  have y0 : (w.alloc (.cells #[.int .i64 0, .int .i64 0, .int .i64 0, .int .i64 0] 56)).cell? ⟨w.heap.size, 0, none⟩ = some (.int .i64 0) := cell_of o0 0
  have z0 : (w.alloc (.cells #[.int .i64 0, .int .i64 0, .int .i64 0, .int .i64 0] 56)).frozen? ⟨w.heap.size, 0, none⟩ = false := frozen_of o0 0
  have y1 : (w.alloc (.cells #[.int .i64 0, .int .i64 0, .int .i64 0, .int .i64 0] 56)).cell? ⟨w.heap.size, 1, none⟩ = some (.int .i64 0) := cell_of o0 1
  have z1 : (w.alloc (.cells #[.int .i64 0, .int .i64 0, .int .i64 0, .int .i64 0] 56)).frozen? ⟨w.heap.size, 1, none⟩ = false := frozen_of o0 1
  have y2 : (w.alloc (.cells #[.int .i64 0, .int .i64 0, .int .i64 0, .int .i64 0] 56)).cell? ⟨w.heap.size, 2, none⟩ = some (.int .i64 0) := cell_of o0 2
  have z2 : (w.alloc (.cells #[.int .i64 0, .int .i64 0, .int .i64 0, .int .i64 0] 56)).frozen? ⟨w.heap.size, 2, none⟩ = false := frozen_of o0 2
  have y3 : (w.alloc (.cells #[.int .i64 0, .int .i64 0, .int .i64 0, .int .i64 0] 56)).cell? ⟨w.heap.size, 3, none⟩ = some (.int .i64 0) := cell_of o0 3
  have z3 : (w.alloc (.cells #[.int .i64 0, .int .i64 0, .int .i64 0, .int .i64 0] 56)).frozen? ⟨w.heap.size, 3, none⟩ = false := frozen_of o0 3
  go_enter Try.func19, Try.ntmps19
  go_wp2_with (first | (go_at_call 28; refine (zero_no h0).mono ?_; rintro e w' ⟨rfl, rfl⟩))
  refine post_seen (Four w w.heap.size 0 0 0 0) ⟨b0, Nat.le_refl _, o0⟩ ?_
  clear y0 y1 y2 y3 z0 z1 z2 z3 o0 h0 b0
  rintro W ⟨b0, hT, h0⟩
  have y0 : W.cell? ⟨w.heap.size, 0, none⟩ = some (.int .i64 0) := cell_of h0 0
  have y1 : W.cell? ⟨w.heap.size, 1, none⟩ = some (.int .i64 0) := cell_of h0 1
  have y2 : W.cell? ⟨w.heap.size, 2, none⟩ = some (.int .i64 0) := cell_of h0 2
  have y3 : W.cell? ⟨w.heap.size, 3, none⟩ = some (.int .i64 0) := cell_of h0 3
  exact bodyPost_ret (v := .tuple #[.agg #[.int .i64 0, .int .i64 0, .int .i64 0, .int .i64 0], .int .i64 1]) (by simp [results, Try.results19, go_sem, y0, y1, y2, y3]) rfl ⟨rfl, b0⟩
theorem run_neq_arr (w : World) (a b c e : Int) : (binOp .neq 56 (.agg #[.int .i64 a, .int .i64 b, .int .i64 c, .int .i64 e]) (.agg #[.int .i64 a, .int .i64 b, .int .i64 c, .int .i64 e])).run Try.prog w = .ok (.bool false) w := by
  simp only [binOp]
  simp [show Op.equal 56 (.agg #[.int .i64 a, .int .i64 b, .int .i64 c, .int .i64 e]) (.agg #[.int .i64 a, .int .i64 b, .int .i64 c, .int .i64 e]) = Op.equalIn (9998 + 2) 56 (.agg #[.int .i64 a, .int .i64 b, .int .i64 c, .int .i64 e]) (.agg #[.int .i64 a, .int .i64 b, .int .i64 c, .int .i64 e]) from rfl, eq_arr w 9998 a b c e]
/-- What the loop sees. -/
structure Two2 (w : World) (q s : Nat) (W : World) : Prop where
  bel : Below w.heap.size w W
  z : W.heap[q]? = some (.cells #[.int .i64 0, .int .i64 0, .int .i64 0, .int .u64 0, .bool false, .slice none 0 0, .slice none 0 0, .slice none 0 0, .slice none 0 0] 54 (0, 0))
  s : W.heap[s]? = some (.cells #[.pointer none, .pointer (some ⟨q, 0, none⟩)] 32 (0, 0))
theorem Two2.below {w W W' : World} {q s : Nat} (h : Two2 w q s W) (k : Below W.heap.size W W') : Two2 w q s W' :=
  ⟨h.bel.trans (k.mono h.bel.size), (k.block _ (lt_of_heap h.z)).trans h.z, (k.block _ (lt_of_heap h.s)).trans h.s⟩
theorem new1 (w : World) : Calls Try.prog 11 #[.int .i64 16, .int .u64 1, .int .i64 0] w fun e w' => ∃ p G Q, e = .returned (.tuple #[.pointer (some ⟨p, 0, none⟩), .int .i64 0]) ∧ Below w.heap.size w w' ∧ (∀ i ∈ blocks p G, w.heap.size ≤ i) ∧ IsSk w' p G Q (Sk.new 16 1 0) :=
  _root_.Go.Proofs.Ytffniljefbpoiaa.new_ok 16 0 1 rfl (by omega) ⟨by omega, by omega⟩ w
set_option maxRecDepth 100000 in
set_option maxHeartbeats 8000000 in
theorem sketchNone_walk (key : ByteArray) (r : Int) (w0 : key.size ≤ maxLen) (w1 : (Lit.int .i64 r).wf = true) (w : World) :
    Calls Try.prog 4 #[.string key, .int .i64 r] w fun e w' => e = .returned (.bool true) ∧ Below w.heap.size w w' := by
  clear w0 w1
  have t0 : Two2 w w.heap.size (w.heap.size + 1) ((w.alloc (.cells #[.int .i64 0, .int .i64 0, .int .i64 0, .int .u64 0, .bool false, .slice none 0 0, .slice none 0 0, .slice none 0 0, .slice none 0 0] 54)).alloc (.cells #[.pointer none, .pointer (some ⟨w.heap.size, 0, none⟩)] 32)) :=
    ⟨((Below.refl _ _).alloc (Nat.le_refl _) _).alloc (by simp) _, heap_alloc (heap_new rfl) _, heap_new (by simp)⟩
  have hK : (Sk.new 16 1 0).Ok := Sk.new_ok rfl (by omega) ⟨by omega, by omega⟩
  by_cases h300 : 300 < key.size
  · go_enter Try.func4, Try.ntmps4
    go_wp2_with (first | (go_at_call 10; refine (known_any _).mono ?_; rintro e v2 ⟨rfl, b2⟩))
    go_ret
    exact ⟨rfl, b2⟩
  · go_enter Try.func4, Try.ntmps4
    go_wp2_with fail
    go_loopw [27] (fun x wr => ∃ j : Nat, j ≤ 2 ∧ x = .int .i64 (j : Nat) ∧ Two2 w w.heap.size (w.heap.size + 1) wr) (fun x _ => 3 - (intOf x).toNat)
    case atStart => exact ⟨0, by omega, rfl, t0⟩
    case round =>
      obtain ⟨j, hj, rfl, t⟩ := hrel
      clear t0
      by_cases hj2 : j < 2
      · obtain ⟨v, hc, hN⟩ : ∃ v, wr.cell? ⟨w.heap.size + 1, j, none⟩ = some (.pointer v) ∧ ∀ W, Two2 w w.heap.size (w.heap.size + 1) W → Nothing W v := by
          have : j = 0 ∨ j = 1 := by omega
          rcases this with rfl | rfl
          · exact ⟨none, cell_of t.s 0, fun W _ => .inl rfl⟩
          · exact ⟨some ⟨w.heap.size, 0, none⟩, cell_of t.s 1, fun W q => .inr ⟨_, rfl, q.z⟩⟩
        have nq := run_neq_arr
        have n1 := hN _ t
        go_wp2_with (first | (go_at_call 12; refine (add_no n1).mono ?_; rintro e w1 ⟨rfl, rfl⟩) | (go_at_call 19; refine (places_no n1).mono ?_; rintro e w2 ⟨rfl, b2⟩; have t2 := (t.below b2).below ((Below.refl _ _).alloc (Nat.le_refl _) (.cells #[.int .i64 0, .int .i64 0, .int .i64 0, .int .i64 0] 56)); have n2 := hN _ t2) | (go_at_call 17; refine (rown_no n2).mono ?_; rintro e w1 ⟨rfl, rfl⟩) | (go_at_call 14; refine (halve_no n2).mono ?_; rintro e w1 ⟨rfl, rfl⟩) | (go_at_call 20; refine (count_no n2).mono ?_; rintro e w1 ⟨rfl, rfl⟩) | (go_at_call 21; refine (additions_no n2).mono ?_; rintro e w1 ⟨rfl, rfl⟩) | (go_at_call 16; refine (copy_no n2).mono ?_; rintro e w1 ⟨rfl, rfl⟩))
        go_roundw
        case rel => exact ⟨j + 1, by omega, by go_num, t2⟩
        all_goals (simp [intOf]; omega)
      · by_cases hr : 0 ≤ r ∧ r < 4
        · obtain ⟨n, rfl⟩ := Int.eq_ofNat_of_zero_le hr.1
          have hn4 : n < 4 := by omega
          go_wp2_with (first | (go_at_call 11; refine (new1 _).mono ?_; rintro e w3 ⟨p, G, Q, rfl, b3, -, s3⟩; have b4 := t.bel.trans (b3.mono t.bel.size)) | (go_at_call 17; refine (row_is s3 hK hn4).mono ?_; rintro e w4 ⟨g, rfl, b5, -, -⟩; have b6 := b4.trans (b5.mono b4.size)) | (go_at_call 10; refine (known_any _).mono ?_; rintro e v2 ⟨rfl, b2⟩))
          go_ret
          exact ⟨rfl, b6.trans (b2.mono b6.size)⟩
        · have hr2 : r < 0 ∨ 4 ≤ r := by omega
          rcases hr2 with hr3 | hr3
          · have q1 : ¬ 0 ≤ r := by omega
            go_wp2_with (first | (go_at_call 11; refine (new1 _).mono ?_; rintro e w3 ⟨p, G, Q, rfl, b3, -, s3⟩; have b4 := t.bel.trans (b3.mono t.bel.size)) | (go_at_call 17; refine (row_no s3 hK (.inl hr3)).mono ?_; rintro e w4 ⟨rfl, rfl⟩) | (go_at_call 10; refine (known_any _).mono ?_; rintro e v2 ⟨rfl, b2⟩))
            all_goals go_ret
            all_goals exact ⟨rfl, b4.trans (b2.mono b4.size)⟩
          · have q1 : ¬ r < 4 := by omega
            go_wp2_with (first | (go_at_call 11; refine (new1 _).mono ?_; rintro e w3 ⟨p, G, Q, rfl, b3, -, s3⟩; have b4 := t.bel.trans (b3.mono t.bel.size)) | (go_at_call 17; refine (row_no s3 hK (.inr hr3)).mono ?_; rintro e w4 ⟨rfl, rfl⟩) | (go_at_call 10; refine (known_any _).mono ?_; rintro e v2 ⟨rfl, b2⟩))
            all_goals go_ret
            all_goals exact ⟨ret_bool (by simpa using q1), b4.trans (b2.mono b4.size)⟩
end Go.Proofs.Ytffniljefbpoiaa
