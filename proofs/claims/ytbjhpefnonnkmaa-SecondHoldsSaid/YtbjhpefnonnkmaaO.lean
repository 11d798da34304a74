/-
  The contracts of cubbyholelaw31's uses, ring and equal.
-/
import Derived.Test.YtbjhpefnonnkmaaN
namespace Go.Proofs.Ytbjhpefnonnkmaa
open Go.ChangeShapes Go.WideShapes Go.ChangeAt Go.RowKit
set_option linter.unusedVariables false

/-- What a right request leaves. -/
def Right (w : World) (p r cap m : Nat) (R : List Pl) (h : Nat) (e : Ending) (w' : World) : Prop :=
  e = .returned (.bool true) ∧ Keeps [p, r, m] w w' ∧ ∃ L', IsSec w' p r cap m R h L' ∧ MapOk R L'
theorem uses_is {p r cap m : Nat} {R : List Pl} {h : Nat} {L : List (Int × Int)} {w : World} (k : Int) (a b : Bool) (c : Int) (R' : List Pl) (h' : Nat) (s : IsSec w p r cap m R h L) (hM : MapOk R L) (hl : R.length ≤ 1024) (hh : h < R.length) (hu : useR R h k = ⟨R', h', a, b, c⟩) :
    Calls Try.prog 21 #[.pointer (some ⟨p, 0, none⟩), .int .u32 k, .agg #[.bool a, .bool b, .int .u32 c]] w fun e w' => Right w p r cap m R' h' e w' := by
  have hp := lt_of_heap s.obj
  have hr := s.row.lt
  have hm := s.mp.lt
  have s0 : IsSec (w.alloc (.cells #[.bool a, .bool b, .int .u32 c] 37)) p r cap m R h L := ⟨heap_alloc s.obj _, s.row.alloc _, s.mp.alloc _, s.pr, s.pm, s.rm⟩
  go_enter Try.func21, Try.ntmps21
  go_upto_region 2 with (first | (go_at_call 11; refine (use_is k s0 hM hl hh).mono ?_; rw [hu]; rintro e w1 ⟨rfl, k1, L', s1, M1⟩))
  have q1 : Keeps [p, r, m] w w1 := ((Keeps.refl [p, r, m] w).alloc _).trans k1 (fun i hi => .inl hi)
  have hb1 : w1.heap[w.heap.size]? = some (.cells #[.bool a, .bool b, .int .u32 c] 37 (0, 0)) := k1.at (heap_new rfl) (by simp; omega)
  refine wp_seen (fun W => Keeps [p, r, m] w W ∧ IsSec W p r cap m R' h' L' ∧ W.heap[w.heap.size]? = some (.cells #[.bool a, .bool b, .int .u32 c] 37 (0, 0)) ∧ W.heap[w1.heap.size]? = some (.cells #[.bool a, .bool b, .int .u32 c] 37 (0, 0))) ⟨q1.alloc _, ⟨heap_alloc s1.obj _, s1.row.alloc _, s1.mp.alloc _, s1.pr, s1.pm, s1.rm⟩, heap_alloc hb1 _, heap_new rfl⟩ ?_
  rintro W ⟨kW, sW, hA, hB⟩
  generalize w1.heap.size = c1 at hB ⊢
  have x0 : W.cell? ⟨w.heap.size, 0, none⟩ = some (.bool a) := cell_of hA 0
  have x1 : W.cell? ⟨w.heap.size, 1, none⟩ = some (.bool b) := cell_of hA 1
  have x2 : W.cell? ⟨w.heap.size, 2, none⟩ = some (.int .u32 c) := cell_of hA 2
  have y0 : W.cell? ⟨c1, 0, none⟩ = some (.bool a) := cell_of hB 0
  have y1 : W.cell? ⟨c1, 1, none⟩ = some (.bool b) := cell_of hB 1
  have y2 : W.cell? ⟨c1, 2, none⟩ = some (.int .u32 c) := cell_of hB 2
  go_wp2_with fail
  go_ret
  exact ⟨rfl, kW, L', sW, M1⟩

theorem make_bools (n : Nat) (hn : n ≤ 1024) (w : World) : (Instr.makeSlice 33 (.int .i64 (n : Nat)) (.int .i64 (n : Nat))).run Try.prog w = .ok (.slice (some ⟨w.heap.size, 0, none⟩) n n) (w.alloc (.cells (Array.replicate n (.bool false)) 4)) := by
  obtain ⟨i, hi, h1, h2, h3⟩ := info_parts info4
  have := run_make (P := Try.prog) w 33 4 i _ Try.underlying33 hi h1 .i64 .i64 (n : Nat) (n : Nat) (by omega) (by omega) (by rw [h3]; omega) (by omega)
  rw [this, h2]
  have e : madeCells (Value.bool false).cells (n * 1) = Array.replicate n (.bool false) := by
    apply Array.ext
    · simp [madeCells]
    · intro i h1 h2; simp [madeCells, Value.cells, Nat.mod_one]
  simp only [Int.toNat_natCast, e]
theorem own_new {B : Nat} {w : World} {cur : Array Value} {e : TypeId} {n : Nat} {xs : List Value} (hB : B ≤ w.heap.size) (hc : cur.toList = xs) (hn : xs.length = n) (hm : n ≤ maxLen) : (w.alloc (.cells cur e)).ownsRow B e 1 (.slice (some ⟨w.heap.size, 0, none⟩) n n) n xs :=
  ⟨by omega, .inr ⟨w.heap.size, n, cur, rfl, hB, heap_new rfl, Nat.le_refl _, hm, by rw [← hn, ← hc]; simp, by subst hc; subst hn; exact List.take_of_length_le (by simp)⟩⟩
theorem own_below {w w' : World} {base : Nat} {e : TypeId} {size : Nat} {v : Value} {n : Nat} {xs : List Value} (h : w.ownsRow base e size v n xs) (k : Below w.heap.size w w') : w'.ownsRow base e size v n xs :=
  ⟨h.1, h.2.imp id fun ⟨g, c, cur, q1, q2, q3, q⟩ => ⟨g, c, cur, q1, q2, (k.block g (lt_of_heap q3)).trans q3, q⟩⟩
theorem Two.below {B : Nat} {w0 W W' : World} {v1 v2 : Value} {n1 n2 : Nat} {xs ys : List Value} (h : Two B w0 v1 v2 n1 n2 xs ys W) (k : Below W.heap.size W W') (hB : B ≤ W.heap.size) : Two B w0 v1 v2 n1 n2 xs ys W' := ⟨own_below h.a k, own_below h.b k, h.ne, h.k.trans (k.mono hB)⟩
theorem ringLaw_is {p r cap m n B : Nat} {R : List Pl} {h : Nat} {L : List (Int × Int)} {w : World} {v : Value} (zs : List Int) (s : IsSec w p r cap m R h L) (hl : R.length ≤ 1024) (hv : w.ownsRow B 29 1 v n (zs.map (Value.int .u32))) (hk : (R.filter (·.full)).map (·.key) = zs) (hm : (R.filter (·.full)).map (·.mark) = List.replicate n false) :
    Calls Try.prog 22 #[.pointer (some ⟨p, 0, none⟩), .int .i64 (h : Nat), v] w fun e w' => e = .returned (.bool true) ∧ Below w.heap.size w w' := by
  obtain ⟨A, c, rfl⟩ := own_shape hv
  have hzl : zs.length = n := by have := hv.1; simpa using this
  have hfu : fulls R = n := by rw [← hzl, ← hk, List.length_map]; unfold fulls; rw [List.countP_eq_length_filter]
  have hn : n ≤ 1024 := by rw [← hfu]; exact Nat.le_trans (fulls_le R) hl
  have hkk : keysOf R = zs.map (Value.int .u32) := by rw [← hk]; unfold keysOf; rw [List.map_map]; rfl
  have hmm : marksOf R = (List.replicate n false).map Value.bool := by rw [← hm]; unfold marksOf; rw [List.map_map]; rfl
  have hmk := make_bools n hn
  go_enter Try.func22, Try.ntmps22
  go_wp2_with (first | (go_at_call 10; refine (ring_is s hl).mono ?_; rintro e w1 ⟨v1, v2, rfl, T⟩; rw [hfu, hkk, hmm] at T; have hv1 : w1.ownsRow B 29 1 (.slice A n c) n (zs.map (Value.int .u32)) := own_below hv T.k) | (go_at_call 29; refine (same_true T.a hv1 (by omega)).mono ?_; rintro e w2 ⟨rfl, b2⟩; have T2 := T.below b2 T.k.size) | (go_at_call 30; refine (marks_true (T2.alloc T2.k.size _).b (own_new (Nat.zero_le _) (by simp) (by simp) (by unfold maxLen; omega)) (by omega)).mono ?_; rintro e w3 ⟨rfl, b3⟩; have T3 := (T2.alloc T2.k.size _).below b3 (T2.alloc T2.k.size _).k.size; have s3 := s.below T3.k) | (go_at_call 19; refine (hand_is s3).mono ?_; rintro e w' ⟨rfl, rfl⟩))
  go_ret
  exact ⟨rfl, T3.k⟩
end Go.Proofs.Ytbjhpefnonnkmaa
