/-
  The contract of slices.DeleteFunc at entries, and of order.
-/
import Derived.Test.YteibleghnadelaaD
namespace Go.Proofs.Yteibleghnadelaa
open Go.ChangeShapes Go.WideShapes Go.ChangeAt Go.RowKit
set_option linter.unusedVariables false

theorem take_order {L : List (Int × Int)} {j : Nat} {x : Int × Int} {k : Int} (hx : L[j]? = some x) : orderL k (L.take (j + 1)) = orderL k (L.take j) ++ if x.1 = k then [] else [x] := by
  unfold orderL
  rw [List.take_add_one, hx, List.filter_append]
  congr 1
  by_cases h : x.1 = k <;> simp [h]
/-- How the row stands after some entries. -/
structure Swept (L F : List (Int × Int)) (k : Int) (i j : Nat) : Prop where
  len : F.length = L.length
  le : i ≤ j
  head : F.take i = orderL k (L.take j)
  tail : F.drop j = L.drop j
theorem Swept.get {L F : List (Int × Int)} {k : Int} {i j : Nat} (h : Swept L F k i j) {x : Int × Int} (hx : L[j]? = some x) : F[j]? = some x := by
  have h1 : (F.drop j)[0]? = (L.drop j)[0]? := by rw [h.tail]
  simpa [hx] using h1
theorem drop_succ_eq {L F : List (Int × Int)} {j : Nat} (h : F.drop j = L.drop j) : F.drop (j + 1) = L.drop (j + 1) := by
  have := congrArg (List.drop 1) h
  simpa [List.drop_drop] using this
theorem Swept.out {L F : List (Int × Int)} {k : Int} {i j : Nat} (h : Swept L F k i j) {x : Int × Int} (hx : L[j]? = some x) (hk : x.1 = k) : Swept L F k i (j + 1) :=
  ⟨h.len, by have := h.le; omega, by rw [take_order hx, if_pos hk, List.append_nil]; exact h.head, drop_succ_eq h.tail⟩
theorem Swept.stay {L F : List (Int × Int)} {k : Int} {i j : Nat} (h : Swept L F k i j) {x : Int × Int} (hx : L[j]? = some x) (hk : x.1 ≠ k) : Swept L (F.set i x) k (i + 1) (j + 1) := by
  have hj : j < L.length := (List.getElem?_eq_some_iff.1 hx).1
  have h1 := h.le
  have h2 := h.len
  refine ⟨by simpa using h.len, by omega, ?_, ?_⟩
  · rw [take_order hx, if_neg hk, ← h.head, List.take_add_one, List.take_set_of_le (Nat.le_refl _)]
    congr 1
    rw [List.getElem?_set_self (by omega)]; rfl
  · rw [List.drop_set_of_lt (by omega)]
    exact drop_succ_eq h.tail
theorem delete_is {g n c p B : Nat} {k : Int} {L : List (Int × Int)} {w : World} (own : w.ownsRow B 34 2 (.slice (some ⟨g, 0, none⟩) n c) n (entsL L)) (hL : L.length = n) (h1 : n ≤ 1000) (hp : w.cell? ⟨p, 1, none⟩ = some (.int .u32 k)) (hlt : p < w.heap.size) (hne : p ≠ g) :
    Calls Try.prog 32 #[.slice (some ⟨g, 0, none⟩) n c, .func (.func 34) #[] #[.pointer (some ⟨p, 0, none⟩)]] w fun e w' => ∃ i, e = .returned (.slice (some ⟨g, 0, none⟩) i c) ∧ w'.ownsRow B 34 2 (.slice (some ⟨g, 0, none⟩) i c) i (entsL (orderL k L)) ∧ Keeps [g] w w' := by
  have I := index_is (c := c) (Ents.of_owns own).2 hL h1 hp hlt
  have hglt : g < w.heap.size := by
    obtain ⟨_, ⟨h, _⟩ | ⟨g', c2, cur, h, hb, hh, _⟩⟩ := own
    · cases h
    · obtain ⟨rfl, rfl⟩ : g = g' ∧ c = c2 := by simpa using h
      exact lt_of_heap hh
  have hnc : n ≤ c := by
    obtain ⟨_, ⟨h, _⟩ | ⟨g', c2, cur, h, hb, hh, hn, _⟩⟩ := own
    · cases h
    · obtain ⟨rfl, rfl⟩ : g = g' ∧ c = c2 := by simpa using h
      exact hn
  go_enter Try.func32, Try.ntmps32
  go_wp2_with (first | (go_at_call 36; refine I.mono ?_; clear I; rintro e w1 ⟨⟨i, rfl, hi⟩, b1⟩; have Hi := Lib.hid hi; clear hi; rcases Hi.out with ⟨rfl, hall⟩ | ⟨j, x, rfl, hx, hk, hno⟩; all_goals try have hj9 : (((j : Nat) : Int) == -1) = false := beq_false_of_ne (by omega)))
  · go_wp2_with fail
    go_ret
    have e : orderL k L = L := List.filter_eq_self.2 (fun y hy => by simpa using hall y hy)
    exact ⟨n, rfl, by rw [e]; exact own_below own b1 (Nat.le_refl _), (Keeps.of_below (S := []) b1).weak (by simp)⟩
  · have hj : j < n := by rw [← hL]; exact (List.getElem?_eq_some_iff.1 hx).1
    have Z0 : Swept L L k j (j + 1) := ⟨rfl, by omega, by
      rw [take_order hx, if_pos hk, List.append_nil]
      exact (List.filter_eq_self.2 (fun y hy => by simpa using hno y hy)).symm, rfl⟩
    have o1 := own_below own b1 (Nat.le_refl _)
    have k1 : Keeps [g] w w1 := (Keeps.of_below (S := []) b1).weak (by simp)
    clear hno hk hx Hi
    go_wp2_with fail
    go_loopw [5, 6] (fun vi vj wr => ∃ (i j : Nat) (F : List (Int × Int)), Swept L F k i j ∧ i < j ∧ j ≤ n ∧ vi = .int .i64 (i : Nat) ∧ vj = .int .i64 (j : Nat) ∧ wr.ownsRow B 34 2 (.slice (some ⟨g, 0, none⟩) n c) n (entsL F) ∧ Keeps [g] w wr) (fun _ vj _ => n + 1 - (intOf vj).toNat)
    case atStart => exact ⟨j, j + 1, L, Z0, by omega, by omega, rfl, by rw [wrap_in (by omega)]; rfl, o1, k1⟩
    case round =>
      obtain ⟨i, j, F, Z, hij, hjn, rfl, rfl, o, kk⟩ := hrel
      clear Z0 o1 k1
      by_cases hlt9 : j < n
      · obtain ⟨x, hx⟩ : ∃ x, L[j]? = some x := ⟨_, List.getElem?_eq_getElem (by omega)⟩
        have hxF := Z.get hx
        obtain ⟨q1, q2⟩ := own_cells o hxF
        have bA : Below wr.heap.size wr (wr.alloc (.cells #[.int .u32 x.1, .int .i64 x.2] 34)) := (Below.refl _ _).alloc (Nat.le_refl _) _
        have C := del_is x k (p := p) (w := wr.alloc (.cells #[.int .u32 x.1, .int .i64 x.2] 34)) ((bA.cell (p := ⟨p, 1, none⟩) (Nat.lt_of_lt_of_le hlt kk.size)).trans ((cell_block (kk.block p hlt (by simpa using hne))).trans hp)) (Nat.lt_of_lt_of_le (Nat.lt_of_lt_of_le hlt kk.size) bA.size)
        have hB : (wr.alloc (.cells #[.int .u32 x.1, .int .i64 x.2] 34)).heap[wr.heap.size]? = some (.cells #[.int .u32 x.1, .int .i64 x.2] 34 (0, 0)) := heap_new rfl
        have HB := Lib.hid hB
        have HA := Lib.hid bA
        clear hB bA hxF
        by_cases hk : x.1 = k
        · rw [decide_eq_true hk] at C
          have Hk := Lib.hid hk
          clear hk
          go_wp2_with (first | (go_at_call 34; refine C.mono ?_; clear C; rintro e w2 ⟨rfl, b2⟩))
          have b3 := HA.out.trans (b2.mono HA.out.size)
          go_roundw
          case rel => exact ⟨i, j + 1, F, Z.out hx Hk.out, by omega, by omega, by first | rfl | go_num, by go_num, own_below o b3 (Nat.le_refl _), kk.trans (Keeps.of_below (S := []) b3) (by simp)⟩
          all_goals (simp [intOf]; omega)
        · rw [decide_eq_false hk] at C
          have Hk := Lib.hid hk
          clear hk
          have HZ := Lib.hid (Z.stay hx Hk.out)
          go_wp2_with (first | (go_at_call 34; refine C.mono ?_; clear C; rintro e w2 ⟨rfl, b2⟩; have b3 := HA.out.trans (b2.mono HA.out.size); have o2 := own_below o b3 (Nat.le_refl _); have hN := (b2.block _ (lt_of_heap HB.out)).trans HB.out; have n0 : w2.cell? ⟨wr.heap.size, 0, none⟩ = some (.int .u32 x.1) := cell_of hN 0; have n1 : w2.cell? ⟨wr.heap.size, 1, none⟩ = some (.int .i64 x.2) := cell_of hN 1; obtain ⟨y, hy⟩ : ∃ y, F[i]? = some y := ⟨_, List.getElem?_eq_getElem (by have := Z.len; omega)⟩; obtain ⟨p1, p2⟩ := own_cells o2 hy; have f1 := own_frozen o2 (i * 2); have f2 := own_frozen o2 (i * 2 + 1)))
          have o3 := own_set o2 (show i < n by omega) x
          go_roundw
          case rel => exact ⟨i + 1, j + 1, F.set i x, HZ.out, by omega, by omega, by go_num, by go_num, o3, ((kk.trans (Keeps.of_below (S := []) b3) (by simp)).setCell (.inl (by simp)) _).setCell (.inl (by simp)) _⟩
          all_goals (simp [intOf]; omega)
      · obtain rfl : n = j := by omega
        have hF : F.take i = orderL k L := by rw [Z.head, List.take_of_length_le (by omega)]
        obtain ⟨w2, r2, o2, k2⟩ := clear_is (c' := c - i) o (i := i) (m := n - i) (by omega) (by omega) 0
        rw [hF] at o2
        have hci : (c = i) = False := by simp; omega
        have hci2 : decide (c = i) = false := decide_eq_false (by omega)
        have hni : wrap64 ((n : Int) - (i : Int)) = ((n - i : Nat) : Int) := by rw [wrap_in (by omega)]; omega
        go_wp2_with fail
        go_ret
        exact ⟨i, rfl, o2, kk.trans k2 (fun q hq => .inl hq)⟩
end Go.Proofs.Yteibleghnadelaa
