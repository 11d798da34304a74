/-
  The contracts of sketch.New, Copy and Row.
-/
import Derived.Test.YtffniljefbpoiaaE
import Derived.Test.YtffniljefbpoiaaF
import Derived.Laws.MakeOwn
namespace Go.Proofs.Ytffniljefbpoiaa
open Go.ChangeShapes Go.WideShapes Go.ChangeAt Go.RowKit
set_option linter.unusedVariables false

theorem info22 : (Try.prog.info? 22).map (fun i => (i.zero, i.size, i.bytes)) = some (some (.int .u64 0), 1, 8) := by kernel_rfl
theorem info3 : (Try.prog.info? 3).map (fun i => (i.zero, i.size, i.bytes)) = some (some (.int .i64 0), 1, 8) := by kernel_rfl
theorem make_words (n : Nat) (hn : n ≤ 65536) (w : World) : (Instr.makeSlice 51 (.int .i64 (n : Nat)) (.int .i64 (n : Nat))).run Try.prog w = .ok (.slice (some ⟨w.heap.size, 0, none⟩) n n) (w.alloc (.cells (madeCells #[.int .u64 0] n) 22)) := by
  obtain ⟨i, hi, h1, h2, h3⟩ := info_parts info22
  have := run_make (P := Try.prog) w 51 22 i _ Try.underlying51 hi h1 .i64 .i64 (n : Nat) (n : Nat) (by omega) (by omega) (by rw [h3]; omega) (by omega)
  rw [this, h2]
  simp [Value.cells]
theorem make_ints (n : Nat) (hn : n ≤ 65536) (w : World) : (Instr.makeSlice 24 (.int .i64 (n : Nat)) (.int .i64 (n : Nat))).run Try.prog w = .ok (.slice (some ⟨w.heap.size, 0, none⟩) n n) (w.alloc (.cells (madeCells #[.int .i64 0] n) 3)) := by
  obtain ⟨i, hi, h1, h2, h3⟩ := info_parts info3
  have := run_make (P := Try.prog) w 24 3 i _ Try.underlying24 hi h1 .i64 .i64 (n : Nat) (n : Nat) (by omega) (by omega) (by rw [h3]; omega) (by omega)
  rw [this, h2]
  simp [Value.cells]
theorem Nums.zeros {w : World} {k : IntKind} {t : TypeId} {n : Nat} (hn : n ≤ maxLen) : Nums (w.alloc (.cells (madeCells #[.int k 0] n) t)) k t w.heap.size n n (fun _ => 0) :=
  ⟨_, heap_new rfl, Nat.le_refl _, hn, by simp [madeCells], fun i hi => by simp [madeCells, hi, Nat.mod_one]⟩
theorem pack_zero (k : Nat) : pack (fun _ => 0) k = 0 := by
  have : ∀ m, packN (fun _ => 0) k m = 0 := by
    intro m
    induction m with
    | zero => rfl
    | succ m ih => show packN (fun _ => 0) k m + 0 * 16 ^ m = 0; rw [ih]; omega
  exact this 16
/-- A sketch is being made: its rows one by one. -/
def Mk0 (w : World) (n s : Nat) (seed : Int) (p : Nat) (W : World) : Prop :=
  Below w.heap.size w W ∧ w.heap.size ≤ p ∧ W.heap[p]? = some (.cells #[.int .i64 (n : Nat), .int .i64 (s : Nat), .int .i64 0, .int .u64 seed, .bool false, .slice none 0 0, .slice none 0 0, .slice none 0 0, .slice none 0 0] 54 (0, 0))

def Mk1 (w : World) (n s : Nat) (seed : Int) (p : Nat) (g0 : Nat) (W : World) : Prop :=
  Below w.heap.size w W ∧ w.heap.size ≤ p ∧ W.heap[p]? = some (.cells #[.int .i64 (n : Nat), .int .i64 (s : Nat), .int .i64 0, .int .u64 seed, .bool false, .slice (some ⟨g0, 0, none⟩) (n / 16) (n / 16), .slice none 0 0, .slice none 0 0, .slice none 0 0] 54 (0, 0)) ∧ (w.heap.size ≤ g0 ∧ Nums W .u64 22 g0 (n / 16) (n / 16) (fun _ => 0))

def Mk2 (w : World) (n s : Nat) (seed : Int) (p : Nat) (g0 g1 : Nat) (W : World) : Prop :=
  Below w.heap.size w W ∧ w.heap.size ≤ p ∧ W.heap[p]? = some (.cells #[.int .i64 (n : Nat), .int .i64 (s : Nat), .int .i64 0, .int .u64 seed, .bool false, .slice (some ⟨g0, 0, none⟩) (n / 16) (n / 16), .slice (some ⟨g1, 0, none⟩) (n / 16) (n / 16), .slice none 0 0, .slice none 0 0] 54 (0, 0)) ∧ (w.heap.size ≤ g0 ∧ Nums W .u64 22 g0 (n / 16) (n / 16) (fun _ => 0)) ∧ (w.heap.size ≤ g1 ∧ g0 < g1 ∧ Nums W .u64 22 g1 (n / 16) (n / 16) (fun _ => 0))

def Mk3 (w : World) (n s : Nat) (seed : Int) (p : Nat) (g0 g1 g2 : Nat) (W : World) : Prop :=
  Below w.heap.size w W ∧ w.heap.size ≤ p ∧ W.heap[p]? = some (.cells #[.int .i64 (n : Nat), .int .i64 (s : Nat), .int .i64 0, .int .u64 seed, .bool false, .slice (some ⟨g0, 0, none⟩) (n / 16) (n / 16), .slice (some ⟨g1, 0, none⟩) (n / 16) (n / 16), .slice (some ⟨g2, 0, none⟩) (n / 16) (n / 16), .slice none 0 0] 54 (0, 0)) ∧ (w.heap.size ≤ g0 ∧ Nums W .u64 22 g0 (n / 16) (n / 16) (fun _ => 0)) ∧ (w.heap.size ≤ g1 ∧ g0 < g1 ∧ Nums W .u64 22 g1 (n / 16) (n / 16) (fun _ => 0)) ∧ (w.heap.size ≤ g2 ∧ g1 < g2 ∧ Nums W .u64 22 g2 (n / 16) (n / 16) (fun _ => 0))

def Mk4 (w : World) (n s : Nat) (seed : Int) (p : Nat) (g0 g1 g2 g3 : Nat) (W : World) : Prop :=
  Below w.heap.size w W ∧ w.heap.size ≤ p ∧ W.heap[p]? = some (.cells #[.int .i64 (n : Nat), .int .i64 (s : Nat), .int .i64 0, .int .u64 seed, .bool false, .slice (some ⟨g0, 0, none⟩) (n / 16) (n / 16), .slice (some ⟨g1, 0, none⟩) (n / 16) (n / 16), .slice (some ⟨g2, 0, none⟩) (n / 16) (n / 16), .slice (some ⟨g3, 0, none⟩) (n / 16) (n / 16)] 54 (0, 0)) ∧ (w.heap.size ≤ g0 ∧ Nums W .u64 22 g0 (n / 16) (n / 16) (fun _ => 0)) ∧ (w.heap.size ≤ g1 ∧ g0 < g1 ∧ Nums W .u64 22 g1 (n / 16) (n / 16) (fun _ => 0)) ∧ (w.heap.size ≤ g2 ∧ g1 < g2 ∧ Nums W .u64 22 g2 (n / 16) (n / 16) (fun _ => 0)) ∧ (w.heap.size ≤ g3 ∧ g2 < g3 ∧ Nums W .u64 22 g3 (n / 16) (n / 16) (fun _ => 0))
theorem Mk0.step {w W : World} {n s : Nat} {seed : Int} {p : Nat} (hn : n ≤ 65536) (h : Mk0 w n s seed p W) : Mk1 w n s seed p W.heap.size (((W.setCell ⟨p, 5, none⟩ (.slice (some ⟨W.heap.size, 0, none⟩) (n / 16) (n / 16))).alloc (.cells (madeCells #[.int .u64 0] (n / 16)) 22)).drew) := by
  obtain ⟨b, hp, ho⟩ := h
  have hz : Nums ((W.setCell ⟨p, 5, none⟩ (.slice (some ⟨W.heap.size, 0, none⟩) (n / 16) (n / 16))).alloc (.cells (madeCells #[.int .u64 0] (n / 16)) 22)) .u64 22 (W.setCell ⟨p, 5, none⟩ (.slice (some ⟨W.heap.size, 0, none⟩) (n / 16) (n / 16))).heap.size (n / 16) (n / 16) (fun _ => 0) := Nums.zeros (by have := hn; unfold maxLen; omega)
  rw [size_set] at hz
  exact ⟨((b.setCell hp _).alloc (by rw [size_set]; exact b.size) _).drew, hp, heap_alloc (heap_set ho _) _, ⟨b.size, hz⟩⟩
theorem Mk1.step {w W : World} {n s : Nat} {seed : Int} {p : Nat} {g0 : Nat} (hn : n ≤ 65536) (h : Mk1 w n s seed p g0 W) : Mk2 w n s seed p g0 W.heap.size (((W.setCell ⟨p, 6, none⟩ (.slice (some ⟨W.heap.size, 0, none⟩) (n / 16) (n / 16))).alloc (.cells (madeCells #[.int .u64 0] (n / 16)) 22)).drew) := by
  obtain ⟨b, hp, ho, ⟨l0, n0⟩⟩ := h
  have hz : Nums ((W.setCell ⟨p, 6, none⟩ (.slice (some ⟨W.heap.size, 0, none⟩) (n / 16) (n / 16))).alloc (.cells (madeCells #[.int .u64 0] (n / 16)) 22)) .u64 22 (W.setCell ⟨p, 6, none⟩ (.slice (some ⟨W.heap.size, 0, none⟩) (n / 16) (n / 16))).heap.size (n / 16) (n / 16) (fun _ => 0) := Nums.zeros (by have := hn; unfold maxLen; omega)
  rw [size_set] at hz
  exact ⟨((b.setCell hp _).alloc (by rw [size_set]; exact b.size) _).drew, hp, heap_alloc (heap_set ho _) _, ⟨l0, (n0.other (fun e => by subst e; obtain ⟨c, hc, _⟩ := n0; rw [hc] at ho; cases ho) _).alloc _⟩, ⟨b.size, n0.lt, hz⟩⟩
theorem Mk2.step {w W : World} {n s : Nat} {seed : Int} {p : Nat} {g0 : Nat} {g1 : Nat} (hn : n ≤ 65536) (h : Mk2 w n s seed p g0 g1 W) : Mk3 w n s seed p g0 g1 W.heap.size (((W.setCell ⟨p, 7, none⟩ (.slice (some ⟨W.heap.size, 0, none⟩) (n / 16) (n / 16))).alloc (.cells (madeCells #[.int .u64 0] (n / 16)) 22)).drew) := by
  obtain ⟨b, hp, ho, ⟨l0, n0⟩, ⟨l1, o1, n1⟩⟩ := h
  have hz : Nums ((W.setCell ⟨p, 7, none⟩ (.slice (some ⟨W.heap.size, 0, none⟩) (n / 16) (n / 16))).alloc (.cells (madeCells #[.int .u64 0] (n / 16)) 22)) .u64 22 (W.setCell ⟨p, 7, none⟩ (.slice (some ⟨W.heap.size, 0, none⟩) (n / 16) (n / 16))).heap.size (n / 16) (n / 16) (fun _ => 0) := Nums.zeros (by have := hn; unfold maxLen; omega)
  rw [size_set] at hz
  exact ⟨((b.setCell hp _).alloc (by rw [size_set]; exact b.size) _).drew, hp, heap_alloc (heap_set ho _) _, ⟨l0, (n0.other (fun e => by subst e; obtain ⟨c, hc, _⟩ := n0; rw [hc] at ho; cases ho) _).alloc _⟩, ⟨l1, o1, (n1.other (fun e => by subst e; obtain ⟨c, hc, _⟩ := n1; rw [hc] at ho; cases ho) _).alloc _⟩, ⟨b.size, n1.lt, hz⟩⟩
theorem Mk3.step {w W : World} {n s : Nat} {seed : Int} {p : Nat} {g0 : Nat} {g1 : Nat} {g2 : Nat} (hn : n ≤ 65536) (h : Mk3 w n s seed p g0 g1 g2 W) : Mk4 w n s seed p g0 g1 g2 W.heap.size (((W.setCell ⟨p, 8, none⟩ (.slice (some ⟨W.heap.size, 0, none⟩) (n / 16) (n / 16))).alloc (.cells (madeCells #[.int .u64 0] (n / 16)) 22)).drew) := by
  obtain ⟨b, hp, ho, ⟨l0, n0⟩, ⟨l1, o1, n1⟩, ⟨l2, o2, n2⟩⟩ := h
  have hz : Nums ((W.setCell ⟨p, 8, none⟩ (.slice (some ⟨W.heap.size, 0, none⟩) (n / 16) (n / 16))).alloc (.cells (madeCells #[.int .u64 0] (n / 16)) 22)) .u64 22 (W.setCell ⟨p, 8, none⟩ (.slice (some ⟨W.heap.size, 0, none⟩) (n / 16) (n / 16))).heap.size (n / 16) (n / 16) (fun _ => 0) := Nums.zeros (by have := hn; unfold maxLen; omega)
  rw [size_set] at hz
  exact ⟨((b.setCell hp _).alloc (by rw [size_set]; exact b.size) _).drew, hp, heap_alloc (heap_set ho _) _, ⟨l0, (n0.other (fun e => by subst e; obtain ⟨c, hc, _⟩ := n0; rw [hc] at ho; cases ho) _).alloc _⟩, ⟨l1, o1, (n1.other (fun e => by subst e; obtain ⟨c, hc, _⟩ := n1; rw [hc] at ho; cases ho) _).alloc _⟩, ⟨l2, o2, (n2.other (fun e => by subst e; obtain ⟨c, hc, _⟩ := n2; rw [hc] at ho; cases ho) _).alloc _⟩, ⟨b.size, n2.lt, hz⟩⟩
set_option maxRecDepth 100000 in
set_option maxHeartbeats 4000000 in
theorem new_ok (n s : Nat) (seed : Int) (h1 : widthB n = true) (h2 : s ≤ 16777216) (h3 : Word seed) (w : World) : Calls Try.prog 11 #[.int .i64 (n : Nat), .int .u64 seed, .int .i64 (s : Nat)] w fun e w' => ∃ p G Q, e = .returned (.tuple #[.pointer (some ⟨p, 0, none⟩), .int .i64 0]) ∧ Below w.heap.size w w' ∧ (∀ i ∈ blocks p G, w.heap.size ≤ i) ∧ IsSk w' p G Q (Sk.new n seed s) := by
  obtain ⟨e, p1, p2, p3⟩ := width_pow h1
  have hn0 : 16 ≤ n := by rw [p3]; exact Nat.pow_le_pow_right (n := 2) (i := 4) (by omega) p1
  have hn1 : n ≤ 65536 := by rw [p3]; exact Nat.pow_le_pow_right (n := 2) (j := 16) (by omega) p2
  have h7 : onesE (n : Int) = 1 := by rw [ones_nat n (by omega), ones_back h1]; rfl
  have hmk := make_words (n / 16) (by omega)
  have hc : ((n / 16 : Nat) : Int) = (n : Int) / 16 := by omega
  simp only [hc] at hmk
  clear p1 p2 p3 hc
  go_enter Try.func11, Try.ntmps11
  go_wp2_with (first | (go_at_call 26; refine (ones (n : Int) (by omega) (by omega) _).mono ?_; rintro e w' ⟨rfl, rfl⟩; rw [h7]) | (go_at_call 27; refine (new_any seed false _).mono ?_; rintro e w' ⟨rfl, rfl⟩))
  have b0 : Mk0 w n s seed (w.heap.size + 1) ((w.alloc (.cells #[.int .u64 seed, .bool false] 50)).alloc (.cells #[.int .i64 (n : Nat), .int .i64 (s : Nat), .int .i64 0, .int .u64 seed, .bool false, .slice none 0 0, .slice none 0 0, .slice none 0 0, .slice none 0 0] 54)) := ⟨((Below.refl _ _).alloc (Nat.le_refl _) _).alloc (by simp) _, by omega, heap_new (by simp)⟩
  refine wp_seen (Mk0 w n s seed (w.heap.size + 1)) b0 ?_
  clear b0 h7
  generalize w.heap.size + 1 = p
  intro W M
  refine wp_loop_rounds 5 ?_
  rw [rounds_succ]
  go_wp2_with fail
  have y0 : W.cell? ⟨p, 5, none⟩ = some (.slice none 0 0) := cell_of M.2.2 5
  have z0 : W.frozen? ⟨p, 5, none⟩ = false := frozen_of M.2.2 5
  have lt0 := lt_of_heap M.2.2
  go_region
  go_wp2_with fail
  rw [rounds_succ]
  refine wp_seen (Mk1 w n s seed p W.heap.size) (M.step hn1) ?_
  generalize W.heap.size = g0
  clear y0 z0 lt0 M W
  intro W M
  go_wp2_with fail
  have y0 : W.cell? ⟨p, 6, none⟩ = some (.slice none 0 0) := cell_of M.2.2.1 6
  have z0 : W.frozen? ⟨p, 6, none⟩ = false := frozen_of M.2.2.1 6
  have lt0 := lt_of_heap M.2.2.1
  go_region
  go_wp2_with fail
  rw [rounds_succ]
  refine wp_seen (Mk2 w n s seed p g0 W.heap.size) (M.step hn1) ?_
  generalize W.heap.size = g1
  clear y0 z0 lt0 M W
  intro W M
  go_wp2_with fail
  have y0 : W.cell? ⟨p, 7, none⟩ = some (.slice none 0 0) := cell_of M.2.2.1 7
  have z0 : W.frozen? ⟨p, 7, none⟩ = false := frozen_of M.2.2.1 7
  have lt0 := lt_of_heap M.2.2.1
  go_region
  go_wp2_with fail
  rw [rounds_succ]
  refine wp_seen (Mk3 w n s seed p g0 g1 W.heap.size) (M.step hn1) ?_
  generalize W.heap.size = g2
  clear y0 z0 lt0 M W
  intro W M
  go_wp2_with fail
  have y0 : W.cell? ⟨p, 8, none⟩ = some (.slice none 0 0) := cell_of M.2.2.1 8
  have z0 : W.frozen? ⟨p, 8, none⟩ = false := frozen_of M.2.2.1 8
  have lt0 := lt_of_heap M.2.2.1
  go_region
  go_wp2_with fail
  rw [rounds_succ]
  refine wp_seen (Mk4 w n s seed p g0 g1 g2 W.heap.size) (M.step hn1) ?_
  generalize W.heap.size = g3
  clear y0 z0 lt0 M W
  intro W M
  go_wp2_with fail
  go_ret2
  obtain ⟨b, hp, ho, ⟨l0, n0⟩, ⟨l1, o1, n1⟩, ⟨l2, o2, n2⟩, ⟨l3, o3, n3⟩⟩ := M
  have hf : ∀ k, wordsF (fun _ => 0) k = 0 := fun k => by unfold wordsF; rw [pack_zero]; rfl
  refine ⟨p, fun r => if r = 0 then g0 else if r = 1 then g1 else if r = 2 then g2 else g3, fun _ => n / 16, rfl, b, ?_, ⟨ho, ?_, ?_⟩⟩
  · intro i hi
    rcases mem_blocks.1 hi with rfl | ⟨r, hr, rfl⟩
    · exact hp
    · split
      · exact l0
      · split
        · exact l1
        · split
          · exact l2
          · exact l3
  · intro r hr
    have : r = 0 ∨ r = 1 ∨ r = 2 ∨ r = 3 := by omega
    rcases this with rfl | rfl | rfl | rfl
    · exact n0.congr fun i _ => hf i
    · exact n1.congr fun i _ => hf i
    · exact n2.congr fun i _ => hf i
    · exact n3.congr fun i _ => hf i
  · intro r q hr hq hne
    have h1 : r = 0 ∨ r = 1 ∨ r = 2 ∨ r = 3 := by omega
    have h2 : q = 0 ∨ q = 1 ∨ q = 2 ∨ q = 3 := by omega
    rcases h1 with rfl | rfl | rfl | rfl <;> rcases h2 with rfl | rfl | rfl | rfl <;> simp <;> omega
set_option maxRecDepth 100000 in
theorem new_no (n s : Int) (seed : Int) (hn : 0 ≤ n → n ≤ 65536 → widthB n.toNat = true → s < 0 ∨ 16777216 < s) (h3 : Word seed) (w : World) (hn1 : -9223372036854775808 ≤ n ∧ n ≤ 9223372036854775807) : Calls Try.prog 11 #[.int .i64 n, .int .u64 seed, .int .i64 s] w fun e w' => e = .returned (.tuple #[.pointer none, .int .i64 2]) ∧ w = w' := by
  by_cases h16 : 16 ≤ n ∧ n ≤ 65536
  · obtain ⟨m, rfl⟩ := Int.eq_ofNat_of_zero_le (a := n) (by omega)
    obtain ⟨a, b⟩ := h16
    have h7 : onesE (m : Int) = 1 → s < 0 ∨ 16777216 < s := by
      rw [ones_nat m (by omega)]
      intro h
      exact hn (by omega) b ((ones_iff m (by omega) (by omega)).1 (by omega))
    clear hn
    generalize hE : onesE (m : Int) = E at h7
    have hE1 := Lib.hid hE
    clear hE
    go_enter Try.func11, Try.ntmps11
    go_wp2_with (first | (go_at_call 26; refine (ones (m : Int) (by omega) (by omega) _).mono ?_; rintro e w' ⟨rfl, rfl⟩; rw [hE1.out]))
    all_goals first | omega | skip
    all_goals go_ret2
    all_goals exact ⟨rfl, rfl⟩
  · clear hn
    go_enter Try.func11, Try.ntmps11
    go_wp2_with fail
    all_goals first | omega | skip
    all_goals go_ret2
    all_goals exact ⟨rfl, rfl⟩
end Go.Proofs.Ytffniljefbpoiaa
