/-
  The contracts of Row, slices.Clone and Copy.
-/
import Derived.Test.YtffniljefbpoiaaG
namespace Go.Proofs.Ytffniljefbpoiaa
open Go.ChangeShapes Go.WideShapes Go.ChangeAt Go.RowKit
set_option linter.unusedVariables false

theorem below_grown {B : Nat} {w0 X W : World} {row : Option Nat} (h : Below B w0 X) (hB : B ≤ X.heap.size) (g : X.grownBy W row) (hr : ∀ i, row = some i → B ≤ i) : Below B w0 W :=
  ⟨g.os.trans h.os, g.tape.trans h.tape, g.output.trans h.output, Nat.le_trans h.size g.size, fun k hk => (g.block k (by omega) (fun e => by have := hr k e.symm; omega)).trans (h.block k hk)⟩
/-- A row is handed back while it is filled. -/
def Fill (w : World) (g n k : Nat) (f : Nat → Nat) (W : World) : Prop := Below w.heap.size w W ∧ w.heap.size ≤ g ∧ Nums W .i64 3 g n n (fun i => if i < k then ((f i : Nat) : Int) else 0)
theorem Fill.next {w W : World} {g n k : Nat} {f : Nat → Nat} (h : Fill w g n k f W) : Fill w g n (k + 1) f (W.setCell ⟨g, k, none⟩ (.int .i64 ((f k : Nat) : Int))) :=
  ⟨h.1.setCell h.2.1 _, h.2.1, h.2.2.set k _ (by rw [if_pos (by omega)]) (fun i hi => by
    by_cases q : i < k
    · rw [if_pos (by omega), if_pos q]
    · rw [if_neg (by omega), if_neg q])⟩
set_option maxRecDepth 100000 in
theorem row_is {w : World} {p : Nat} {G Q : Nat → Nat} {K : Sk} (s : IsSk w p G Q K) (hK : K.Ok) {r : Nat} (hr : r < 4) :
    Calls Try.prog 17 #[.pointer (some ⟨p, 0, none⟩), .int .i64 (r : Nat)] w fun e w' => ∃ g, e = .returned (.tuple #[.slice (some ⟨g, 0, none⟩) K.n K.n, .int .i64 0]) ∧ Below w.heap.size w w' ∧ w.heap.size ≤ g ∧ Nums w' .i64 3 g K.n K.n (fun i => ((K.c r i : Nat) : Int)) := by
  have hn := hK.n16
  have n0 : 16 ≤ K.n := hn.1
  have n1 : K.n ≤ 65536 := hn.2.1
  clear hn
  have hmk := make_ints K.n n1
  have c0 : w.cell? ⟨p, 0, none⟩ = some (.int .i64 (K.n : Nat)) := cell_of s.obj 0
  go_enter Try.func17, Try.ntmps17
  go_wp2_with (first | (go_at_call 28; refine (zero_is s hK).mono ?_; rintro e w1 ⟨rfl, rfl⟩))
  have f0 : Fill w w.heap.size K.n 0 (K.c r) (w.alloc (.cells (madeCells #[.int .i64 0] K.n) 3)) := ⟨(Below.refl _ _).alloc (Nat.le_refl _) _, Nat.le_refl _, (Nums.zeros (by unfold maxLen; omega)).congr fun i _ => by rw [if_neg (by omega)]⟩
  go_loopw [23] (fun x wr => ∃ k : Nat, k ≤ K.n ∧ x = .int .i64 (k : Nat) ∧ Fill w w.heap.size K.n k (K.c r) wr) (fun x _ => K.n + 1 - (intOf x).toNat)
  case atStart => exact ⟨0, by omega, rfl, f0⟩
  case round =>
    obtain ⟨k, hk, rfl, v⟩ := hrel
    clear f0 hmk c0
    by_cases hkn : k < K.n
    · have c1 := v.2.2.cell hkn
      rw [if_neg (by omega)] at c1
      have z1 := v.2.2.frozen k
      have sW := s.below v.1
      go_wp2_with (first | (go_at_call 30; refine (at_is sW hK hr hkn).mono ?_; rintro e w1 ⟨rfl, rfl⟩))
      go_roundw
      case rel => exact ⟨k + 1, by omega, by go_num, v.next⟩
      all_goals (simp [intOf]; omega)
    · obtain rfl : k = K.n := by omega
      go_wp2_with fail
      go_ret2
      exact ⟨w.heap.size, rfl, v.1, v.2.1, v.2.2.congr fun i hi => by rw [if_pos hi]⟩
theorem row_no {w : World} {p : Nat} {G Q : Nat → Nat} {K : Sk} (s : IsSk w p G Q K) (hK : K.Ok) {r : Int} (hr : r < 0 ∨ 4 ≤ r) :
    Calls Try.prog 17 #[.pointer (some ⟨p, 0, none⟩), .int .i64 r] w fun e w' => e = .returned (.tuple #[.slice none 0 0, .int .i64 2]) ∧ w = w' := by
  go_enter Try.func17, Try.ntmps17
  go_wp2_with (first | (go_at_call 28; refine (zero_is s hK).mono ?_; rintro e w1 ⟨rfl, rfl⟩))
  all_goals first | omega | skip
  all_goals go_ret2
  all_goals exact ⟨rfl, rfl⟩

theorem run_equalIn_slice_nil (w : World) (d : Nat) (a : Addr) (n c : Nat) : (Op.equalIn (d + 1) 51 (.slice (some a) n c) (.slice none 0 0)).run Try.prog w = .ok false w := by
  simp [Op.equalIn, run_underlying Try.underlying51]
theorem run_eql_slice_nil (w : World) (a : Addr) (n c : Nat) : (binOp .eql 51 (.slice (some a) n c) (.slice none 0 0)).run Try.prog w = .ok (.bool false) w := by
  simp only [binOp]
  simp [show Op.equal 51 (.slice (some a) n c) (.slice none 0 0) = Op.equalIn (9999 + 1) 51 (.slice (some a) n c) (.slice none 0 0) from rfl, run_equalIn_slice_nil w 9999 a n c]
theorem own_base {w : World} {base : Nat} {e : TypeId} {size : Nat} {v : Value} {n : Nat} {xs : List Value} (h : w.ownsRow base e size v n xs) : w.ownsRow 0 e size v n xs :=
  ⟨h.1, h.2.imp id fun ⟨g, c, cur, q1, _, q⟩ => ⟨g, c, cur, q1, Nat.zero_le _, q⟩⟩
theorem nums_one {n : Nat} {k : IntKind} {f : Nat → Int} : ∀ u ∈ (List.range n).map (fun i => Value.int k (f i)), u.oneCell' = true := by
  intro u hu
  obtain ⟨i, _, rfl⟩ := List.mem_map.1 hu
  rfl
theorem clone_is {w : World} {g n cap : Nat} {f : Nat → Int} (s : Nums w .u64 22 g n cap f) (h0 : 0 < n) (hl : n ≤ 65536) :
    Calls Try.prog 32 #[.slice (some ⟨g, 0, none⟩) n cap] w fun e w' => ∃ g' cap', e = .returned (.slice (some ⟨g', 0, none⟩) n cap') ∧ Below w.heap.size w w' ∧ Nums w' .u64 22 g' n cap' f ∧ w.heap.size ≤ g' := by
  obtain ⟨i22, hi, hz, hs, hb⟩ := info_parts info22
  have lt := s.lt
  have hq := fun w => run_eql_slice_nil w ⟨g, 0, none⟩ n cap
  go_enter Try.func32, Try.ntmps32
  go_wp2_with (first | (at_builtin; refine wpList_append_lies _ rfl (.tmp 5) (.tmp 6) 51 rfl w.heap.size 22 i22 _ 1 8 Try.underlying51 hi hz hs hb rfl (by decide) (.slice (some ⟨w.heap.size, 0, none⟩) 0 0) 0 [] rfl (World.ownsRow_made _ _ 0 (Nat.le_refl _) (by unfold maxLen; omega) (by simp)) ⟨g, 0, none⟩ n cap ((List.range n).map fun i => Value.int .u64 (f i)) rfl (by simp) ((s.alloc _).owns.cells rfl) nums_one h0 (by unfold maxLen; omega) (by omega) (by simp) _ rfl ?_; intro g2 cap2 w1 o1 gr1 pl1 lt1))
  go_ret
  have o2 : w1.ownsRow w.heap.size 22 1 (.slice (some ⟨g2, 0, none⟩) n cap2) n ((List.range n).map fun i => Value.int .u64 (f i)) := by simpa using o1
  exact ⟨g2, cap2, by simp, below_grown ((Below.refl _ _).alloc (Nat.le_refl _) _) (by simp) gr1 (by intro i hi; simp [Value.ownBlock] at hi; omega), Nums.of_owns o2, (o2.lt g2 rfl).1⟩
end Go.Proofs.Ytffniljefbpoiaa
