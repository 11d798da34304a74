/-
  The contracts of the reference's Order, Stays and Choose.
-/
import Derived.Test.YteibleghnadelaaN
namespace Go.Proofs.Yteibleghnadelaa
open Go.ChangeShapes Go.WideShapes Go.ChangeAt Go.RowKit
set_option linter.unusedVariables false

theorem ents_one {w : World} {B : Nat} {x : Int × Int} {t : TypeId} (h : w.heap[B]? = some (.cells #[.int .u32 x.1, .int .i64 x.2] t (0, 0))) : Ents w (some ⟨B, 0, none⟩) [x] := fun _ => ⟨B, 0, rfl, lt_of_heap h, fun i y hy => by
  match i, hy with
  | 0, hy =>
    obtain rfl : x = y := by simpa using hy
    exact ⟨cell_of h 0, cell_of h 1⟩⟩
theorem slots_one {w : World} {B : Nat} {x : Int} {t : TypeId} (h : w.heap[B]? = some (.cells #[.int .u32 x] t (0, 0))) : Slots w (some ⟨B, 0, none⟩) [x] := fun _ => ⟨B, 0, rfl, lt_of_heap h, fun i y hy => by
  match i, hy with
  | 0, hy =>
    obtain rfl : x = y := by simpa using hy
    exact cell_of h 0⟩
set_option maxHeartbeats 4000000 in
theorem orderR_is {s1 s2 : Option Addr} {n1 c1 n2 c2 : Nat} {k : Int} {L1 L2 : List (Int × Int)} {w : World} (hE1 : Ents w s1 L1) (hE2 : Ents w s2 L2) (h1 : L1.length = n1) (h2 : L2.length = n2) (h3 : n1 + n2 ≤ 500) :
    Calls Try.prog 14 #[.slice s1 n1 c1, .slice s2 n2 c2, .int .u32 k] w fun e w' => ∃ A n c, n = (orderL k (L1 ++ L2)).length ∧ e = .returned (.slice A n c) ∧ w'.ownsRow w.heap.size 34 2 (.slice A n c) n (entsL (orderL k (L1 ++ L2))) ∧ Below w.heap.size w w' := by
  obtain ⟨v2, w2, A, c, w3, r2, r3, o3, b3⟩ := both (c1 := c1) (c2 := c2) hE1 hE2 h1 h2 h3
  have hlen : (L1 ++ L2).length = n1 + n2 := by rw [List.length_append, h1, h2]
  generalize L1 ++ L2 = L at *
  generalize n1 + n2 = n at *
  have E3 := (Ents.of_owns o3).2
  have Hlen := Lib.hid hlen
  have hb3 := b3.size
  clear hlen o3 hE1 hE2 h1 h2
  go_enter Try.func14, Try.ntmps14
  go_wp2_with (first | (at_builtin; refine Lib.wpList_append_run _ rfl (.const (.slice none 0 0)) (.tmp 10) 22 22 rfl _ _ rfl rfl _ _ r2 ?_) | (at_builtin; refine Lib.wpList_append_run _ rfl (.tmp 11) (.tmp 12) 22 22 rfl _ _ rfl rfl _ _ r3 ?_))
  clear r2 r3
  go_loopw [8, 9] (fun v x wr => ∃ j : Nat, j ≤ n ∧ x = .int .i64 (j : Nat) ∧ wr.ownsRow w3.heap.size 34 2 v (orderL k (L.take j)).length (entsL (orderL k (L.take j))) ∧ Below w3.heap.size w3 wr) (fun _ x _ => n + 1 - (intOf x).toNat)
  case atStart => exact ⟨0, by omega, rfl, World.ownsRow_nil _ _ _ _, Below.refl _ _⟩
  case round =>
    obtain ⟨j, hj, rfl, o, bw⟩ := hrel
    by_cases hjn : j < n
    · obtain ⟨x, hx⟩ : ∃ x, L[j]? = some x := ⟨_, List.getElem?_eq_getElem (by rw [Hlen.out]; omega)⟩
      have e := E3.below bw (Nat.le_refl _)
      obtain ⟨b, off, rfl, hb, p1, p2⟩ := e.get hx
      have ht := take_order (k := k) hx
      have hle : (orderL k (L.take j)).length ≤ 500 := Nat.le_trans (orderL_length _ _) (by rw [List.length_take, Hlen.out]; omega)
      by_cases hk : x.1 = k
      · rw [if_pos hk, List.append_nil] at ht
        have Ht := Lib.hid ht
        have hk2 : (x.1 == k) = true := by simpa using hk
        clear ht hx hk
        go_wp2_with fail
        go_roundw
        case rel => exact ⟨j + 1, by omega, by go_num, by rw [Ht.out]; exact o, bw⟩
        all_goals (simp [intOf]; omega)
      · rw [if_neg hk] at ht
        have Ht := Lib.hid ht
        have hk2 : (x.1 == k) = false := beq_false_of_ne hk
        clear ht hx hk
        have bA : Below w3.heap.size w3 (wr.alloc (.cells #[.int .u32 x.1, .int .i64 x.2] 34)) := bw.alloc bw.size _
        have oA := o.alloc (.cells #[.int .u32 x.1, .int .i64 x.2] 34)
        obtain ⟨v', w', r, o', g', _⟩ := app_ents (c := 1) (m := 1) (M := [x]) oA rfl (ents_one (heap_new (w := wr) rfl)) bA.size (by omega) 22
        have b' := Below.grown bA g' (own_block oA) bA.size
        clear bA oA g'
        go_wp2_with (at_builtin; refine Lib.wpList_append_run _ rfl (.tmp 27) (.tmp 32) 22 22 rfl _ _ rfl rfl _ _ r ?_)
        go_roundw
        case rel => exact ⟨j + 1, by omega, by go_num, by rw [Ht.out, List.length_append]; exact o', b'⟩
        all_goals (simp [intOf]; omega)
    · obtain rfl : n = j := by omega
      rw [List.take_of_length_le (by rw [Hlen.out]; omega)] at o
      go_wp2_with fail
      go_ret
      obtain ⟨A, c9, e9⟩ := own_shape o
      subst e9
      exact ⟨A, _, c9, rfl, rfl, own_mono o hb3, b3.trans (bw.mono hb3)⟩
end Go.Proofs.Yteibleghnadelaa
