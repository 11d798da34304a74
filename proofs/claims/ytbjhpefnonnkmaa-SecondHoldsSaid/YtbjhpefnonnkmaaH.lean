/-
  The contracts of the reference's copy, Ring and Drop.
-/
import Derived.Test.YtbjhpefnonnkmaaG
namespace Go.Proofs.Ytbjhpefnonnkmaa
open Go.ChangeShapes Go.WideShapes Go.ChangeAt Go.RowKit
set_option linter.unusedVariables false

theorem own_mono {w : World} {base base' : Nat} {e : TypeId} {size : Nat} {v : Value} {n : Nat} {xs : List Value} (h : w.ownsRow base e size v n xs) (hb : base' ≤ base) : w.ownsRow base' e size v n xs :=
  ⟨h.1, h.2.imp id fun ⟨g, c, cur, q1, q2, q⟩ => ⟨g, c, cur, q1, Nat.le_trans hb q2, q⟩⟩
theorem own_base {w : World} {base : Nat} {e : TypeId} {size : Nat} {v : Value} {n : Nat} {xs : List Value} (h : w.ownsRow base e size v n xs) : w.ownsRow 0 e size v n xs :=
  ⟨h.1, h.2.imp id fun ⟨g, c, cur, q1, _, q⟩ => ⟨g, c, cur, q1, Nat.zero_le _, q⟩⟩
/-- A value of a reference cache is handed back. -/
def RefBack (w : World) (R : List Pl) (h : Nat) (e : Ending) (w' : World) : Prop :=
  ∃ a cap, e = .returned (.agg #[.slice (some ⟨a, 0, none⟩) R.length cap, .int .i64 (h : Nat)]) ∧ Below w.heap.size w w' ∧ Row w' 78 a cap R ∧ w.heap.size ≤ a
theorem copy_ref {a cap h : Nat} {R : List Pl} {w : World} (s : Row w 78 a cap R) (h0 : 0 < R.length) (hl : R.length ≤ 1024) :
    Calls Try.prog 36 #[.agg #[.slice (some ⟨a, 0, none⟩) R.length cap, .int .i64 (h : Nat)]] w fun e w' => RefBack w R h e w' := by
  obtain ⟨i78, hi, hz, hs, hb⟩ := info_parts info78
  have lt := s.lt
  go_enter Try.func36, Try.ntmps36
  go_upto_region 1 with fail
  refine wp_seen (fun W => Below w.heap.size w W ∧ Row W 78 a cap R ∧ W.heap[w.heap.size]? = some (.cells #[.slice (some ⟨a, 0, none⟩) R.length cap, .int .i64 (h : Nat)] 47 (0, 0)) ∧ W.heap[w.heap.size + 1]? = some (.cells #[.slice none 0 0, .int .i64 0] 47 (0, 0))) ⟨((Below.refl _ _).alloc (Nat.le_refl _) _).alloc (by simp) _, (s.alloc _).alloc _, heap_alloc (heap_new rfl) _, heap_new (by simp)⟩ ?_
  rintro W ⟨bW, sW, hA, hB⟩
  have c0 : W.cell? ⟨w.heap.size, 0, none⟩ = some (.slice (some ⟨a, 0, none⟩) R.length cap) := cell_of hA 0
  have c1 : W.cell? ⟨w.heap.size, 1, none⟩ = some (.int .i64 (h : Nat)) := cell_of hA 1
  have d0 : W.cell? ⟨w.heap.size + 1, 0, none⟩ = some (.slice none 0 0) := cell_of hB 0
  have d1 : W.cell? ⟨w.heap.size + 1, 1, none⟩ = some (.int .i64 0) := cell_of hB 1
  have g0 : W.frozen? ⟨w.heap.size + 1, 0, none⟩ = false := frozen_of hB 0
  have g1 : W.frozen? ⟨w.heap.size + 1, 1, none⟩ = false := frozen_of hB 1
  have hsz := lt_of_heap hB
  go_region_law (refine step_append_lies _ rfl (.const (.slice none 0 0)) (.tmp 4) 45 rfl w.heap.size 78 i78 _ 3 8 Try.underlying45 hi hz hs hb rfl (by decide) (.slice none 0 0) 0 [] rfl (World.ownsRow_nil _ _ _ _) ⟨a, 0, none⟩ R.length cap (ringL R) (by simp [Act.eval]) (ringL_length R) (sW.owns.cells rfl) ringL_one h0 (by unfold maxLen; omega) (by omega) (by simp; omega) _ rfl ?_; intro g cap2 w1 o1 gr1 pl1 lt1; have hA1 : w1.heap[w.heap.size]? = some (.cells #[.slice (some ⟨a, 0, none⟩) R.length cap, .int .i64 (h : Nat)] 47 (0, 0)) := (gr1.block _ (by show _ < W.heap.size; omega) (by simp [Value.ownBlock])).trans hA; have hB1 : w1.heap[w.heap.size + 1]? = some (.cells #[.slice none 0 0, .int .i64 0] 47 (0, 0)) := (gr1.block _ (by show _ < W.heap.size; omega) (by simp [Value.ownBlock])).trans hB; have c1' : w1.cell? ⟨w.heap.size, 1, none⟩ = some (.int .i64 (h : Nat)) := cell_of hA1 1; have d0' : w1.cell? ⟨w.heap.size + 1, 0, none⟩ = some (.slice none 0 0) := cell_of hB1 0; have d1' : w1.cell? ⟨w.heap.size + 1, 1, none⟩ = some (.int .i64 0) := cell_of hB1 1; have g0' : w1.frozen? ⟨w.heap.size + 1, 0, none⟩ = false := frozen_of hB1 0; have g1' : w1.frozen? ⟨w.heap.size + 1, 1, none⟩ = false := frozen_of hB1 1)
  all_goals have o2 : w1.ownsRow w.heap.size 78 3 (.slice (some ⟨g, 0, none⟩) R.length cap2) R.length (ringL R) := by simpa using o1
  all_goals have bel1 : Below w.heap.size w w1 := below_grown (X := W.drew) bW.drew bW.size gr1 (by intro i hi; cases hi)
  all_goals have hg : w.heap.size ≤ g := (o2.lt g rfl).1
  all_goals have gne : g ≠ w.heap.size + 1 := by rcases pl1 with q | q; (simp [Value.ownBlock] at q); (have : g = W.heap.size := q; omega)
  all_goals have hR1 : Row w1 78 g cap2 R := Row.of_owns rfl (own_base o2)
  all_goals go_wp2_with fail
  all_goals refine post_seen (fun X => Below w.heap.size w X ∧ Row X 78 g cap2 R ∧ X.heap[w.heap.size + 1]? = some (.cells #[.slice (some ⟨g, 0, none⟩) R.length cap2, .int .i64 (h : Nat)] 47 (0, 0))) ⟨(bel1.setCell (by simp) _).setCell (by simp) _, (hR1.other gne _).other gne _, heap_set (heap_set hB1 _) _⟩ ?_
  all_goals rintro X ⟨bX, rX, hX⟩
  all_goals clear c0 c1 d0 d1 g0 g1 c1' d0' d1' g0' g1'
  all_goals have r0 : X.cell? ⟨w.heap.size + 1, 0, none⟩ = some (.slice (some ⟨g, 0, none⟩) R.length cap2) := cell_of hX 0
  all_goals have r1 : X.cell? ⟨w.heap.size + 1, 1, none⟩ = some (.int .i64 (h : Nat)) := cell_of hX 1
  all_goals exact bodyPost_ret (v := .agg #[.slice (some ⟨g, 0, none⟩) R.length cap2, .int .i64 (h : Nat)]) (by simp [results, Try.results36, go_sem, r0, r1]) rfl ⟨g, cap2, rfl, bX, rX, hg⟩

/-- A world with the box of a reference cache. -/
def bxW (w : World) (a n cap h : Nat) : World := w.alloc (.cells #[.slice (some ⟨a, 0, none⟩) n cap, .int .i64 (h : Nat)] 47)
theorem bxW_size (w : World) (a n cap h : Nat) : (bxW w a n cap h).heap.size = w.heap.size + 1 := by unfold bxW; simp
theorem boxAt {w W : World} {a n cap h : Nat} (k : Below (w.heap.size + 1) (bxW w a n cap h) W) : W.heap[w.heap.size]? = some (.cells #[.slice (some ⟨a, 0, none⟩) n cap, .int .i64 (h : Nat)] 47 (0, 0)) := (k.block _ (by omega)).trans (heap_new rfl)
theorem rowAt {w W : World} {a n cap h rcap : Nat} {e : TypeId} {R : List Pl} (s : Row w e a rcap R) (k : Below (w.heap.size + 1) (bxW w a n cap h) W) : Row W e a rcap R := by
  have := s.alloc (.cells #[.slice (some ⟨a, 0, none⟩) n cap, .int .i64 (h : Nat)] 47)
  exact this.keep (S := []) (Keeps.of_below (by rw [show (w.alloc _).heap.size = w.heap.size + 1 by simp]; exact k)) (by simp)
theorem Two.mono {B B' : Nat} {w0 w1 W : World} {v1 v2 : Value} {n1 n2 : Nat} {xs ys : List Value} (h : Two B w0 v1 v2 n1 n2 xs ys W) (hb : B' ≤ B) (k : Below B' w1 w0) : Two B' w1 v1 v2 n1 n2 xs ys W := ⟨own_mono h.a hb, own_mono h.b hb, h.ne, k.trans (h.k.mono hb)⟩
set_option maxHeartbeats 4000000 in
theorem ring_ref {a cap h : Nat} {R : List Pl} {w : World} (s : Row w 78 a cap R) (hl : R.length ≤ 1024) :
    Calls Try.prog 28 #[.agg #[.slice (some ⟨a, 0, none⟩) R.length cap, .int .i64 (h : Nat)]] w fun e w' => Ringed w R e w' := by
  obtain ⟨i29, hi29, hz29, hs29, hb29⟩ := info_parts info29
  obtain ⟨i4, hi4, hz4, hs4, hb4⟩ := info_parts info4
  have hb0 : Below w.heap.size w (bxW w a R.length cap h) := (Below.refl _ _).alloc (Nat.le_refl _) _
  go_enter Try.func28, Try.ntmps28
  go_wp2_with fail
  go_loopw [4, 5, 6] (fun u v x wr => ∃ k : Nat, k ≤ R.length ∧ x = .int .i64 (k : Nat) ∧ Two (w.heap.size + 1) (bxW w a R.length cap h) u v (fulls (R.take k)) (fulls (R.take k)) (keysOf (R.take k)) (marksOf (R.take k)) wr) (fun _ _ x _ => R.length + 1 - (intOf x).toNat)
  case atStart => exact ⟨0, by omega, rfl, ⟨World.ownsRow_nil _ _ _ _, World.ownsRow_nil _ _ _ _, .inl rfl, Below.refl _ _⟩⟩
  case round =>
    obtain ⟨k, hk, rfl, T⟩ := hrel
    by_cases hlt : k < R.length
    · have hx : R[k]? = some R[k] := List.getElem?_eq_getElem hlt
      have hta : R.take (k + 1) = R.take k ++ [R[k]] := by rw [List.take_add_one, hx]; rfl
      have e1 : wrap64 ((k : Int) + 1) = (k : Int) + 1 := wrap_in (by omega)
      have hkf := fulls_take R k
      generalize hX : R[k] = X at *
      generalize hP : R.take k = P at *
      have bx_wr := boxAt T.k
      have d0_wr : wr.cell? ⟨w.heap.size, 0, none⟩ = some (.slice (some ⟨a, 0, none⟩) R.length cap) := cell_of bx_wr 0
      have sR_wr : Row wr 78 a cap R := rowAt s T.k
      have f0_wr : wr.cell? ⟨a, k * 3, none⟩ = some (.int .u32 X.key) := sR_wr.cell hx 0 (by omega)
      have f1_wr : wr.cell? ⟨a, k * 3 + 1, none⟩ = some (.bool X.full) := sR_wr.cell hx 1 (by omega)
      have f2_wr : wr.cell? ⟨a, k * 3 + 2, none⟩ = some (.bool X.mark) := sR_wr.cell hx 2 (by omega)
      have hB : w.heap.size + 1 ≤ wr.heap.size := by have := T.k.size; rw [bxW_size] at this; exact this
      cases hfu : X.full with
      | false =>
        rw [hfu] at f1_wr
        go_wp2_with fail
        go_roundw
        case rel => exact ⟨k + 1, by omega, by go_num, by rw [hta, keysOf_snoc, marksOf_snoc, if_neg (by rw [hfu]; decide), if_neg (by rw [hfu]; decide)]; rw [show fulls (P ++ [X]) = fulls P by unfold fulls; simp [hfu]]; exact T⟩
        all_goals (simp [intOf]; omega)
      | true =>
        rw [hfu] at f1_wr
        go_wp2_with (first | (at_builtin; refine wpList_append_lies _ rfl (.tmp 20) (.tmp 27) 32 rfl (w.heap.size + 1) 29 i29 _ 1 4 Try.underlying32 hi29 hz29 hs29 hb29 rfl (by decide) u4 (fulls P) (keysOf P) rfl (T.a.alloc _) ⟨wr.heap.size, 0, none⟩ 1 1 [.int .u32 X.key] rfl rfl (news_one (heap_new rfl)) (by simp [Value.oneCell']) (by decide) (by unfold maxLen; omega) (by omega) (by simp; omega) _ rfl ?_; intro g1 cap1 w1 o1 gr1 pl1 lt1; have T2 := Two.grow1 (T.alloc (by omega) _) (by simp; omega) o1 gr1 pl1; have hB1 : w.heap.size + 1 ≤ w1.heap.size := (by have := T2.k.size; rw [bxW_size] at this; exact this); have bx_w1 := boxAt T2.k; have d0_w1 : w1.cell? ⟨w.heap.size, 0, none⟩ = some (.slice (some ⟨a, 0, none⟩) R.length cap) := cell_of bx_w1 0; have sR_w1 : Row w1 78 a cap R := rowAt s T2.k; have f0_w1 : w1.cell? ⟨a, k * 3, none⟩ = some (.int .u32 X.key) := sR_w1.cell hx 0 (by omega); have f1_w1 : w1.cell? ⟨a, k * 3 + 1, none⟩ = some (.bool X.full) := sR_w1.cell hx 1 (by omega); have f2_w1 : w1.cell? ⟨a, k * 3 + 2, none⟩ = some (.bool X.mark) := sR_w1.cell hx 2 (by omega)) | (at_builtin; refine wpList_append_lies _ rfl (.tmp 29) (.tmp 36) 33 rfl (w.heap.size + 1) 4 i4 _ 1 1 Try.underlying33 hi4 hz4 hs4 hb4 rfl (by decide) u5 (fulls P) (marksOf P) rfl (T2.b.alloc _) ⟨w1.heap.size, 0, none⟩ 1 1 [.bool X.mark] rfl rfl (news_one (heap_new rfl)) (by simp [Value.oneCell']) (by decide) (by unfold maxLen; omega) (by omega) (by simp; omega) _ rfl ?_; intro g2 cap2 w2 o2 gr2 pl2 lt2; have T3 := Two.grow2 (T2.alloc hB1 _) (by simp; omega) o2 gr2 pl2))
        go_roundw
        case rel => exact ⟨k + 1, by omega, by go_num, by rw [hta, keysOf_snoc, marksOf_snoc, if_pos hfu, if_pos hfu, show fulls (P ++ [X]) = fulls P + 1 by unfold fulls; simp [hfu]]; exact T3⟩
        all_goals (simp [intOf]; omega)
    · have d0 : wr.cell? ⟨w.heap.size, 0, none⟩ = some (.slice (some ⟨a, 0, none⟩) R.length cap) := cell_of (boxAt T.k) 0
      go_wp2_with fail
      go_ret2
      obtain rfl : k = R.length := by omega
      rw [List.take_length] at T
      exact ⟨_, _, rfl, T.mono (by omega) hb0⟩
end Go.Proofs.Ytbjhpefnonnkmaa
