/-
  The contracts of the law's places, adds and few.
-/
import Derived.Test.YtffniljefbpoiaaO
namespace Go.Proofs.Ytffniljefbpoiaa
open Go.ChangeShapes Go.WideShapes Go.ChangeAt Go.RowKit
set_option linter.unusedVariables false

theorem adds_is {w : World} {p : Nat} {G Q : Nat → Nat} {K : Sk} (s : IsSk w p G Q K) (hK : K.Ok) (key : ByteArray) (hs : key.size ≤ maxLen) (ha : K.a + 1 < 16777217) (b : Bool) (hb : K.full = b) :
    Calls Try.prog 24 #[.pointer (some ⟨p, 0, none⟩), .string key, .bool b] w fun e w' => e = .returned (.bool true) ∧ Keeps (blocks p G) w w' ∧ IsSk w' p G Q (K.add key.data.toList) := by
  subst hb
  go_enter Try.func24, Try.ntmps24
  go_wp2_with (first | (go_at_call 12; refine (add_is s hK key hs ha).mono ?_; rintro e w1 ⟨rfl, k1, s1⟩))
  all_goals go_ret
  all_goals exact ⟨by first | rfl | (simp), k1, s1⟩
theorem eq_int (w : World) (d : Nat) (x : Int) : (Op.equalIn (d + 1) 3 (.int .i64 x) (.int .i64 x)).run Try.prog w = .ok true w := by
  simp [Op.equalIn, run_underlying Try.underlying3]
theorem eq_arr (w : World) (d : Nat) (a b c e : Int) : (Op.equalIn (d + 2) 56 (.agg #[.int .i64 a, .int .i64 b, .int .i64 c, .int .i64 e]) (.agg #[.int .i64 a, .int .i64 b, .int .i64 c, .int .i64 e])).run Try.prog w = .ok true w := by
  unfold Op.equalIn
  simp [run_underlying Try.underlying56, go_sem, List.range', Std.Legacy.Range.forIn_eq_forIn_range', Std.Legacy.Range.size, eq_int, part]
theorem run_eql_arr (w : World) (a b c e : Int) : (binOp .eql 56 (.agg #[.int .i64 a, .int .i64 b, .int .i64 c, .int .i64 e]) (.agg #[.int .i64 a, .int .i64 b, .int .i64 c, .int .i64 e])).run Try.prog w = .ok (.bool true) w := by
  simp only [binOp]
  simp [show Op.equal 56 (.agg #[.int .i64 a, .int .i64 b, .int .i64 c, .int .i64 e]) (.agg #[.int .i64 a, .int .i64 b, .int .i64 c, .int .i64 e]) = Op.equalIn (9998 + 2) 56 (.agg #[.int .i64 a, .int .i64 b, .int .i64 c, .int .i64 e]) (.agg #[.int .i64 a, .int .i64 b, .int .i64 c, .int .i64 e]) from rfl, eq_arr w 9998 a b c e]
set_option maxRecDepth 100000 in
theorem placesL_is {w : World} {p : Nat} {G Q : Nat → Nat} {K : Sk} (s : IsSk w p G Q K) (hK : K.Ok) (key : ByteArray) (hs : key.size ≤ maxLen) :
    Calls Try.prog 22 #[.pointer (some ⟨p, 0, none⟩), .string key, .agg #[.int .i64 (K.plc key.data.toList 0 : Nat), .int .i64 (K.plc key.data.toList 1 : Nat), .int .i64 (K.plc key.data.toList 2 : Nat), .int .i64 (K.plc key.data.toList 3 : Nat)]] w fun e w' => e = .returned (.bool true) ∧ Below w.heap.size w w' := by
  have b0 : Below w.heap.size w (w.alloc (.cells #[.int .i64 (K.plc key.data.toList 0 : Nat), .int .i64 (K.plc key.data.toList 1 : Nat), .int .i64 (K.plc key.data.toList 2 : Nat), .int .i64 (K.plc key.data.toList 3 : Nat)] 56)) := (Below.refl _ _).alloc (Nat.le_refl _) _
  have s0 := s.below b0
  have O0 : (w.alloc (.cells #[.int .i64 (K.plc key.data.toList 0 : Nat), .int .i64 (K.plc key.data.toList 1 : Nat), .int .i64 (K.plc key.data.toList 2 : Nat), .int .i64 (K.plc key.data.toList 3 : Nat)] 56)).heap[w.heap.size]? = _ := heap_new rfl
  have lt0 := lt_of_heap O0
  go_enter Try.func22, Try.ntmps22
  go_upto_region 2 with (first | (go_at_call 19; refine (sPlaces_is s0 hK key hs).mono ?_; rintro e w1 ⟨rfl, b1⟩))
  have O1 : w1.heap[w.heap.size]? = _ := (b1.block _ lt0).trans O0
  refine wp_seen (fun W => Below w.heap.size w W ∧ W.heap[w.heap.size]? = some (.cells #[.int .i64 (K.plc key.data.toList 0 : Nat), .int .i64 (K.plc key.data.toList 1 : Nat), .int .i64 (K.plc key.data.toList 2 : Nat), .int .i64 (K.plc key.data.toList 3 : Nat)] 56 (0, 0)) ∧ W.heap[w1.heap.size]? = some (.cells #[.int .i64 (K.plc key.data.toList 0 : Nat), .int .i64 (K.plc key.data.toList 1 : Nat), .int .i64 (K.plc key.data.toList 2 : Nat), .int .i64 (K.plc key.data.toList 3 : Nat)] 56 (0, 0))) ⟨(b0.trans (b1.mono b0.size)).alloc (b0.trans (b1.mono b0.size)).size _, heap_alloc O1 _, heap_new rfl⟩ ?_
  clear O1 O0 lt0 s0 b1 b0
  generalize w1.heap.size = T
  generalize hBw : w.heap.size = B
  rintro W ⟨bW, hB, hT⟩
  have c0 : W.cell? ⟨B, 0, none⟩ = some (.int .i64 (K.plc key.data.toList 0 : Nat)) := cell_of hB 0
  have c1 : W.cell? ⟨B, 1, none⟩ = some (.int .i64 (K.plc key.data.toList 1 : Nat)) := cell_of hB 1
  have c2 : W.cell? ⟨B, 2, none⟩ = some (.int .i64 (K.plc key.data.toList 2 : Nat)) := cell_of hB 2
  have c3 : W.cell? ⟨B, 3, none⟩ = some (.int .i64 (K.plc key.data.toList 3 : Nat)) := cell_of hB 3
  have d0 : W.cell? ⟨T, 0, none⟩ = some (.int .i64 (K.plc key.data.toList 0 : Nat)) := cell_of hT 0
  have d1 : W.cell? ⟨T, 1, none⟩ = some (.int .i64 (K.plc key.data.toList 1 : Nat)) := cell_of hT 1
  have d2 : W.cell? ⟨T, 2, none⟩ = some (.int .i64 (K.plc key.data.toList 2 : Nat)) := cell_of hT 2
  have d3 : W.cell? ⟨T, 3, none⟩ = some (.int .i64 (K.plc key.data.toList 3 : Nat)) := cell_of hT 3
  have hq := run_eql_arr
  go_wp2_with fail
  go_ret
  exact ⟨rfl, by rw [hBw]; exact bW⟩
end Go.Proofs.Ytffniljefbpoiaa
