/-
  The contract of second.Ring.
-/
import Derived.Test.YtbjhpefnonnkmaaE
import Derived.Deep.RegionLaw
namespace Go.Proofs.Ytbjhpefnonnkmaa
open Go.ChangeShapes Go.WideShapes Go.ChangeAt Go.RowKit
set_option linter.unusedVariables false

theorem info29 : (Try.prog.info? 29).map (fun i => (i.zero, i.size, i.bytes)) = some (some (.int .u32 0), 1, 4) := by kernel_rfl
theorem info4 : (Try.prog.info? 4).map (fun i => (i.zero, i.size, i.bytes)) = some (some (.bool false), 1, 1) := by kernel_rfl
/-- Two rows of one's own that lie apart. -/
structure Two (B : Nat) (w0 : World) (v1 v2 : Value) (n1 n2 : Nat) (xs ys : List Value) (W : World) : Prop where
  a : W.ownsRow B 29 1 v1 n1 xs
  b : W.ownsRow B 4 1 v2 n2 ys
  ne : v1.ownBlock = none ∨ v1.ownBlock ≠ v2.ownBlock
  k : Below B w0 W
theorem own_lt {w : World} {base : Nat} {e : TypeId} {size : Nat} {v : Value} {n : Nat} {xs : List Value} (h : w.ownsRow base e size v n xs) {g : Nat} (hg : v.ownBlock = some g) : g < w.heap.size := (h.lt g hg).2
theorem Two.alloc {B : Nat} {w0 W : World} {v1 v2 : Value} {n1 n2 : Nat} {xs ys : List Value} (h : Two B w0 v1 v2 n1 n2 xs ys W) (hB : B ≤ W.heap.size) (o : Obj) : Two B w0 v1 v2 n1 n2 xs ys (W.alloc o) := ⟨h.a.alloc o, h.b.alloc o, h.ne, h.k.alloc hB o⟩
theorem Two.drew {B : Nat} {w0 W : World} {v1 v2 : Value} {n1 n2 : Nat} {xs ys : List Value} (h : Two B w0 v1 v2 n1 n2 xs ys W) : Two B w0 v1 v2 n1 n2 xs ys W.drew := ⟨h.a, h.b, h.ne, h.k.drew⟩
theorem below_grown {B : Nat} {w0 X W : World} {row : Option Nat} (h : Below B w0 X) (hB : B ≤ X.heap.size) (g : X.grownBy W row) (hr : ∀ i, row = some i → B ≤ i) : Below B w0 W :=
  ⟨g.os.trans h.os, g.tape.trans h.tape, g.output.trans h.output, Nat.le_trans h.size g.size, fun k hk => (g.block k (by omega) (fun e => by have := hr k e.symm; omega)).trans (h.block k hk)⟩
theorem Two.grow1 {B : Nat} {w0 X W : World} {v1 v2 : Value} {n1 n2 m g c : Nat} {xs ys zs : List Value} (h : Two B w0 v1 v2 n1 n2 xs ys X) (hB : B ≤ X.heap.size) (ho : W.ownsRow B 29 1 (.slice (some ⟨g, 0, none⟩) m c) m zs) (hg : X.grownBy W v1.ownBlock) (hp : v1.ownBlock = some g ∨ g = X.heap.size) : Two B w0 (.slice (some ⟨g, 0, none⟩) m c) v2 m n2 zs ys W := by
  refine ⟨ho, h.b.kept hg ?_, .inr ?_, below_grown h.k hB hg fun i hi => (h.a.lt i hi).1⟩
  · rcases h.ne with q | q
    · cases hv : v2.ownBlock with
      | none => exact .inl rfl
      | some j => rw [q]; exact .inr (by simp)
    · exact .inr (Ne.symm q)
  · show some g ≠ v2.ownBlock
    rcases hp with q | q
    · rcases h.ne with z | z
      · rw [q] at z; cases z
      · rw [← q]; exact z
    · intro e; have := own_lt h.b e.symm; omega
theorem Two.grow2 {B : Nat} {w0 X W : World} {v1 v2 : Value} {n1 n2 m g c : Nat} {xs ys zs : List Value} (h : Two B w0 v1 v2 n1 n2 xs ys X) (hB : B ≤ X.heap.size) (ho : W.ownsRow B 4 1 (.slice (some ⟨g, 0, none⟩) m c) m zs) (hg : X.grownBy W v2.ownBlock) (hp : v2.ownBlock = some g ∨ g = X.heap.size) : Two B w0 v1 (.slice (some ⟨g, 0, none⟩) m c) n1 m xs zs W := by
  refine ⟨h.a.kept hg ?_, ho, ?_, below_grown h.k hB hg fun i hi => (h.b.lt i hi).1⟩
  · cases hv : v1.ownBlock with
    | none => exact .inl rfl
    | some j =>
      rcases h.ne with q | q
      · rw [hv] at q; cases q
      · rw [← hv]; exact .inr q
  · show v1.ownBlock = none ∨ v1.ownBlock ≠ some g
    rcases hp with q | q
    · rcases h.ne with z | z
      · exact .inl z
      · right; rw [← q]; exact z
    · cases hv : v1.ownBlock with
      | none => exact .inl rfl
      | some j => right; have := own_lt h.a hv; intro e; cases e; omega
/-- A block of one cell that was just made keeps through an append to another row. -/
theorem one_kept {X W : World} {c : Nat} {o : Obj} {row : Option Nat} (h : X.heap[c]? = some o) (g : X.grownBy W row) (hne : ∀ i, row = some i → i ≠ c) : W.heap[c]? = some o :=
  (g.block c (lt_of_heap h) (fun e => by have := hne c e.symm; exact this rfl)).trans h
theorem news_one {X : World} {c : Nat} {u : Value} {T : TypeId} (h : X.heap[c]? = some (.cells #[u] T (0, 0))) : ∀ j y, [u][j]? = some y → X.cell? ((⟨c, 0, none⟩ : Addr).add j) = some y := World.news_of_block h

def keysOf (R : List Pl) : List Value := (R.filter (·.full)).map fun x => .int .u32 x.key
def marksOf (R : List Pl) : List Value := (R.filter (·.full)).map fun x => .bool x.mark
theorem keysOf_snoc (R : List Pl) (x : Pl) : keysOf (R ++ [x]) = if x.full = true then keysOf R ++ [.int .u32 x.key] else keysOf R := by
  unfold keysOf; by_cases h : x.full = true <;> simp [List.filter_append, h]
theorem marksOf_snoc (R : List Pl) (x : Pl) : marksOf (R ++ [x]) = if x.full = true then marksOf R ++ [.bool x.mark] else marksOf R := by
  unfold marksOf; by_cases h : x.full = true <;> simp [List.filter_append, h]
theorem keysOf_length (R : List Pl) : (keysOf R).length = fulls R := by unfold keysOf fulls; rw [List.length_map, List.countP_eq_length_filter]
theorem marksOf_length (R : List Pl) : (marksOf R).length = fulls R := by unfold marksOf fulls; rw [List.length_map, List.countP_eq_length_filter]
theorem fulls_take (R : List Pl) (k : Nat) : fulls (R.take k) ≤ k := Nat.le_trans (fulls_le _) (by simp; omega)
/-- What Ring leaves: two rows of one's own. -/
def Ringed (w : World) (R : List Pl) (e : Ending) (w' : World) : Prop :=
  ∃ v1 v2, e = .returned (.tuple #[v1, v2]) ∧ Two w.heap.size w v1 v2 (fulls R) (fulls R) (keysOf R) (marksOf R) w'

set_option maxHeartbeats 8000000 in
theorem ring_is {p r cap m : Nat} {R : List Pl} {h : Nat} {L : List (Int × Int)} {w : World} (s : IsSec w p r cap m R h L) (hl : R.length ≤ 1024) :
    Calls Try.prog 10 #[.pointer (some ⟨p, 0, none⟩)] w fun e w' => Ringed w R e w' := by
  obtain ⟨i29, hi29, hz29, hs29, hb29⟩ := info_parts info29
  obtain ⟨i4, hi4, hz4, hs4, hb4⟩ := info_parts info4
  have c0 : w.cell? ⟨p, 0, none⟩ = some (.slice (some ⟨r, 0, none⟩) R.length cap) := cell_of s.obj 0
  go_enter Try.func10, Try.ntmps10
  go_wp2_with (first | (go_at_call 23; refine (zero_is s).mono ?_; rintro e w' ⟨rfl, rfl⟩))
  go_loopw [2, 3, 13] (fun a b x wr => ∃ k : Nat, k ≤ R.length ∧ x = .int .i64 (k : Nat) ∧ Two w.heap.size w a b (fulls (R.take k)) (fulls (R.take k)) (keysOf (R.take k)) (marksOf (R.take k)) wr) (fun _ _ x _ => R.length + 1 - (intOf x).toNat)
  case atStart => exact ⟨0, by omega, rfl, ⟨World.ownsRow_nil _ _ _ _, World.ownsRow_nil _ _ _ _, .inl rfl, Below.refl _ _⟩⟩
  case round =>
    obtain ⟨k, hk, rfl, T⟩ := hrel
    by_cases hlt : k < R.length
    · have hx : R[k]? = some R[k] := List.getElem?_eq_getElem hlt
      have sR := s.row.keep (S := []) (Keeps.of_below T.k) (by simp)
      have f0 : wr.cell? ⟨r, k * 3, none⟩ = some (.int .u32 R[k].key) := sR.cell hx 0 (by omega)
      have f1 : wr.cell? ⟨r, k * 3 + 1, none⟩ = some (.bool R[k].full) := sR.cell hx 1 (by omega)
      have f2 : wr.cell? ⟨r, k * 3 + 2, none⟩ = some (.bool R[k].mark) := sR.cell hx 2 (by omega)
      have hta : R.take (k + 1) = R.take k ++ [R[k]] := by rw [List.take_add_one, hx]; rfl
      have e1 : wrap64 ((k : Int) + 1) = (k : Int) + 1 := wrap_in (by omega)
      have hkf := fulls_take R k
      generalize hX : R[k] = X at *
      generalize hP : R.take k = P at *
      have hB := T.k.size
      cases hfu : X.full with
      | false =>
        rw [hfu] at f1
        go_wp2_with fail
        go_roundw
        case rel => exact ⟨k + 1, by omega, by go_num, by rw [hta, keysOf_snoc, marksOf_snoc, if_neg (by rw [hfu]; decide), if_neg (by rw [hfu]; decide)]; rw [show fulls (P ++ [X]) = fulls P by unfold fulls; simp [hfu]]; exact T.alloc hB _⟩
        all_goals (simp [intOf]; omega)
      | true =>
        rw [hfu] at f1
        go_upto_region 7 with fail
        refine wp_seen (fun W => Two w.heap.size w u2 u3 (fulls P) (fulls P) (keysOf P) (marksOf P) W ∧ W.heap[wr.heap.size]? = some (.cells #[.int .u32 X.key, .bool true, .bool X.mark] 63 (0, 0)) ∧ w.heap.size ≤ W.heap.size) ⟨T.alloc hB _, heap_new rfl, by simp; omega⟩ ?_
        rintro Wq ⟨T1, hb5, hBq⟩
        have hu2 : ∀ i, u2.ownBlock = some i → i < wr.heap.size := fun i hi => own_lt T.a hi
        have hc5 := lt_of_heap hb5
        clear f0 f1 f2 c0 sR s T
        generalize wr.heap.size = c5 at *
        have b0 : Wq.cell? ⟨c5, 0, none⟩ = some (.int .u32 X.key) := cell_of hb5 0
        have b2 : Wq.cell? ⟨c5, 2, none⟩ = some (.bool X.mark) := cell_of hb5 2
        have b2k : (Wq.alloc (.cells #[.int .u32 X.key] 29)).cell? ⟨c5, 2, none⟩ = some (.bool X.mark) := cell_of (heap_alloc hb5 _) 2
        have b0m : (Wq.alloc (.cells #[.bool X.mark] 4)).cell? ⟨c5, 0, none⟩ = some (.int .u32 X.key) := cell_of (heap_alloc hb5 _) 0
        go_region_law (first | (refine step_append_lies _ rfl (.tmp 19) (.tmp 22) 32 rfl w.heap.size 29 i29 _ 1 4 Try.underlying32 hi29 hz29 hs29 hb29 rfl (by decide) u2 (fulls P) (keysOf P) rfl (by first | exact T1.a.alloc _ | exact (T1.a.alloc _).alloc _) ⟨Wq.heap.size, 0, none⟩ 1 1 [.int .u32 X.key] rfl rfl (news_one (by first | exact heap_new rfl | exact heap_alloc (heap_new rfl) _ | exact heap_new (by simp))) (by simp [Value.oneCell']) (by decide) (by unfold maxLen; omega) (by omega) (by simp; omega) _ rfl ?_; intro g1 cap1 w1 o1 gr1 pl1 lt1; have T2 : Two w.heap.size w (.slice (some ⟨g1, 0, none⟩) (fulls P + 1) cap1) u3 (fulls P + 1) (fulls P) (keysOf P ++ [.int .u32 X.key]) (marksOf P) w1 := Two.grow1 (X := (Wq.alloc (.cells #[.int .u32 X.key] 29)).drew) (T1.alloc hBq _).drew (by simp; omega) o1 gr1 pl1; have b2' : w1.cell? ⟨c5, 2, none⟩ = some (.bool X.mark) := (cell_of (one_kept (c := c5) (X := (Wq.alloc (.cells #[.int .u32 X.key] 29)).drew) (heap_drew (heap_alloc hb5 _)) gr1 (fun i hi => by have := hu2 i hi; omega)) 2); have hB1 : w.heap.size ≤ w1.heap.size := T2.k.size; skip) | (refine step_append_lies _ rfl (.tmp 19) (.tmp 22) 32 rfl w.heap.size 29 i29 _ 1 4 Try.underlying32 hi29 hz29 hs29 hb29 rfl (by decide) u2 (fulls P) (keysOf P) rfl (by first | exact T1.a.alloc _ | exact (T1.a.alloc _).alloc _) ⟨Wq.heap.size, 0, none⟩ 1 1 [.int .u32 X.key] rfl rfl (news_one (by first | exact heap_new rfl | exact heap_alloc (heap_new rfl) _ | exact heap_new (by simp))) (by simp [Value.oneCell']) (by decide) (by unfold maxLen; omega) (by omega) (by simp; omega) _ rfl ?_; intro g1 cap1 w1 o1 gr1 pl1 lt1; have T2 : Two w.heap.size w (.slice (some ⟨g1, 0, none⟩) (fulls P + 1) cap1) u3 (fulls P + 1) (fulls P) (keysOf P ++ [.int .u32 X.key]) (marksOf P) w1 := Two.grow1 (X := ((Wq.alloc (.cells #[.int .u32 X.key] 29)).alloc (.cells #[.bool X.mark] 4)).drew) ((T1.alloc hBq _).alloc (by simp; omega) _).drew (by simp; omega) o1 gr1 pl1; have b2' : w1.cell? ⟨c5, 2, none⟩ = some (.bool X.mark) := (cell_of (one_kept (c := c5) (X := ((Wq.alloc (.cells #[.int .u32 X.key] 29)).alloc (.cells #[.bool X.mark] 4)).drew) (heap_drew (heap_alloc (heap_alloc hb5 _) _)) gr1 (fun i hi => by have := hu2 i hi; omega)) 2); have hB1 : w.heap.size ≤ w1.heap.size := T2.k.size; have hm1 : w1.heap[Wq.heap.size + 1]? = some (.cells #[.bool X.mark] 4 (0, 0)) := one_kept (X := ((Wq.alloc (.cells #[.int .u32 X.key] 29)).alloc (.cells #[.bool X.mark] 4)).drew) (heap_drew (heap_new (by simp))) gr1 (fun i hi => by have := hu2 i hi; omega)) | (refine step_append_lies _ rfl (.tmp 19) (.tmp 22) 32 rfl w.heap.size 29 i29 _ 1 4 Try.underlying32 hi29 hz29 hs29 hb29 rfl (by decide) u2 (fulls P) (keysOf P) rfl (by first | exact T1.a.alloc _ | exact (T1.a.alloc _).alloc _) ⟨Wq.heap.size + 1, 0, none⟩ 1 1 [.int .u32 X.key] rfl rfl (news_one (by first | exact heap_new rfl | exact heap_alloc (heap_new rfl) _ | exact heap_new (by simp))) (by simp [Value.oneCell']) (by decide) (by unfold maxLen; omega) (by omega) (by simp; omega) _ rfl ?_; intro g1 cap1 w1 o1 gr1 pl1 lt1; have T2 : Two w.heap.size w (.slice (some ⟨g1, 0, none⟩) (fulls P + 1) cap1) u3 (fulls P + 1) (fulls P) (keysOf P ++ [.int .u32 X.key]) (marksOf P) w1 := Two.grow1 (X := ((Wq.alloc (.cells #[.bool X.mark] 4)).alloc (.cells #[.int .u32 X.key] 29)).drew) ((T1.alloc hBq _).alloc (by simp; omega) _).drew (by simp; omega) o1 gr1 pl1; have b2' : w1.cell? ⟨c5, 2, none⟩ = some (.bool X.mark) := (cell_of (one_kept (c := c5) (X := ((Wq.alloc (.cells #[.bool X.mark] 4)).alloc (.cells #[.int .u32 X.key] 29)).drew) (heap_drew (heap_alloc (heap_alloc hb5 _) _)) gr1 (fun i hi => by have := hu2 i hi; omega)) 2); have hB1 : w.heap.size ≤ w1.heap.size := T2.k.size; have hm1 : w1.heap[Wq.heap.size]? = some (.cells #[.bool X.mark] 4 (0, 0)) := one_kept (X := ((Wq.alloc (.cells #[.bool X.mark] 4)).alloc (.cells #[.int .u32 X.key] 29)).drew) (heap_drew (heap_alloc (heap_new rfl) _)) gr1 (fun i hi => by have := hu2 i hi; omega)) | (refine step_append_lies _ rfl (.tmp 24) (.tmp 27) 33 rfl w.heap.size 4 i4 _ 1 1 Try.underlying33 hi4 hz4 hs4 hb4 rfl (by decide) u3 (fulls P) (marksOf P) rfl (by first | exact T2.b | exact T2.b.alloc _) ⟨Wq.heap.size, 0, none⟩ 1 1 [.bool X.mark] rfl rfl (news_one (by first | exact hm1 | exact heap_new rfl)) (by simp [Value.oneCell']) (by decide) (by unfold maxLen; omega) (by omega) (by first | exact hB1 | (simp; omega)) _ rfl ?_; intro g2 cap2 w2 o2 gr2 pl2 lt2; have T3 : Two w.heap.size w (.slice (some ⟨g1, 0, none⟩) (fulls P + 1) cap1) (.slice (some ⟨g2, 0, none⟩) (fulls P + 1) cap2) (fulls P + 1) (fulls P + 1) (keysOf P ++ [.int .u32 X.key]) (marksOf P ++ [.bool X.mark]) w2 := by first | exact Two.grow2 (X := w1) T2 hB1 o2 gr2 pl2 | exact Two.grow2 (X := w1.alloc (.cells #[.bool X.mark] 4)) (T2.alloc hB1 _) (by simp; omega) o2 gr2 pl2) | (refine step_append_lies _ rfl (.tmp 24) (.tmp 27) 33 rfl w.heap.size 4 i4 _ 1 1 Try.underlying33 hi4 hz4 hs4 hb4 rfl (by decide) u3 (fulls P) (marksOf P) rfl (by first | exact T2.b | exact T2.b.alloc _) ⟨Wq.heap.size + 1, 0, none⟩ 1 1 [.bool X.mark] rfl rfl (news_one (by first | exact hm1 | exact heap_new rfl)) (by simp [Value.oneCell']) (by decide) (by unfold maxLen; omega) (by omega) (by first | exact hB1 | (simp; omega)) _ rfl ?_; intro g2 cap2 w2 o2 gr2 pl2 lt2; have T3 : Two w.heap.size w (.slice (some ⟨g1, 0, none⟩) (fulls P + 1) cap1) (.slice (some ⟨g2, 0, none⟩) (fulls P + 1) cap2) (fulls P + 1) (fulls P + 1) (keysOf P ++ [.int .u32 X.key]) (marksOf P ++ [.bool X.mark]) w2 := by first | exact Two.grow2 (X := w1) T2 hB1 o2 gr2 pl2 | exact Two.grow2 (X := w1.alloc (.cells #[.bool X.mark] 4)) (T2.alloc hB1 _) (by simp; omega) o2 gr2 pl2) | (refine step_append_lies _ rfl (.tmp 24) (.tmp 27) 33 rfl w.heap.size 4 i4 _ 1 1 Try.underlying33 hi4 hz4 hs4 hb4 rfl (by decide) u3 (fulls P) (marksOf P) rfl (by first | exact T2.b | exact T2.b.alloc _) ⟨w1.heap.size, 0, none⟩ 1 1 [.bool X.mark] rfl rfl (news_one (by first | exact hm1 | exact heap_new rfl)) (by simp [Value.oneCell']) (by decide) (by unfold maxLen; omega) (by omega) (by first | exact hB1 | (simp; omega)) _ rfl ?_; intro g2 cap2 w2 o2 gr2 pl2 lt2; have T3 : Two w.heap.size w (.slice (some ⟨g1, 0, none⟩) (fulls P + 1) cap1) (.slice (some ⟨g2, 0, none⟩) (fulls P + 1) cap2) (fulls P + 1) (fulls P + 1) (keysOf P ++ [.int .u32 X.key]) (marksOf P ++ [.bool X.mark]) w2 := by first | exact Two.grow2 (X := w1) T2 hB1 o2 gr2 pl2 | exact Two.grow2 (X := w1.alloc (.cells #[.bool X.mark] 4)) (T2.alloc hB1 _) (by simp; omega) o2 gr2 pl2))
        all_goals refine ex_seen (Two w.heap.size w (.slice (some ⟨g1, 0, none⟩) (fulls P + 1) cap1) (.slice (some ⟨g2, 0, none⟩) (fulls P + 1) cap2) (fulls P + 1) (fulls P + 1) (keysOf P ++ [.int .u32 X.key]) (marksOf P ++ [.bool X.mark])) (by first | exact T3 | exact T3.drew) ?_
        all_goals intro W9 T9
        all_goals clear T3 T2 o1 o2 gr1 gr2 b2' b0 b2 b2k b0m hb5
        all_goals go_wp2_with fail
        all_goals go_roundw
        all_goals first
          | (case rel => exact ⟨k + 1, by omega, by go_num, by rw [hta, keysOf_snoc, marksOf_snoc, if_pos hfu, if_pos hfu, show fulls (P ++ [X]) = fulls P + 1 by unfold fulls; simp [hfu]]; exact T9⟩)
          | skip
        all_goals (simp [intOf]; omega)
    · go_wp2_with fail
      go_ret2
      obtain rfl : k = R.length := by omega
      rw [List.take_length] at T
      exact ⟨_, _, rfl, T⟩
end Go.Proofs.Ytbjhpefnonnkmaa
